/-  -/
import Derived.Test.YtebjhmlmdjnkgaaGreatDoorQG
set_option linter.all false
open Nat renaming reduceEqDiff → zE,reduceBEq → zB,reduceAdd → zA,reduceMul → zM,reduceSub → zS,reduceLeDiff → zL
namespace Go.Proofs.Tryz
open Go Go.Iv
set_option maxRecDepth 4000
variable (gl:Nat->Option IV)
theorem s_p (n:ByteArray)(st:ISt):ICall prog gl 5 [.raw (.string n)] st (λr st'=>r=.agg [.raw (.int .u8 1),.raw (.string n),.sl ⟨true,.nil,0⟩ [],.sl ⟨true,.nil,0⟩ []]/\st'=st):=by
 refine iI func5 ?_;simp only[go_sem,zE,zA,zL,reduceCtorEq,fits];exact yQ0 ⟨rfl,rfl⟩
theorem s_of (o:Int)(t:Tag)(xs:List IV)(st:ISt):ICall prog gl 6 [.raw (.int .u8 o),.sl t xs] st (λr st'=>r=.agg [.raw (.int .u8 o),.raw (.string ⟨#[]⟩),.sl ⟨true,.nil,0⟩ [],.sl t xs]/\st'=st):=by
 refine iI func6 ?_;simp only[go_sem,zE,zA,zL,reduceCtorEq,fits];exact yQ0 ⟨rfl,rfl⟩
theorem s_fs (t:Tag)(xs:List IV)(st:ISt):ICall prog gl 4 [.sl t xs] st (λr st'=>r=.sl t xs/\st'=st):=by
 refine iI func4 ?_;simp only[go_sem,reduceCtorEq];exact yQ0 ⟨rfl,rfl⟩
theorem s_sq (t:Tag)(xs:List IV)(t':Tag)(ys:List IV)(st:ISt):ICall prog gl 8 [.sl t xs,.sl t' ys] st (λr st'=>r=.agg [.sl t xs,.sl t' ys]/\st'=st):=by
 refine iI func8 ?_;simp only[go_sem,zE,zA,zL,reduceCtorEq,fits];exact yQ0 ⟨rfl,rfl⟩
theorem zV5 (rule o:Int)(n:ByteArray)(t:Tag)(x:List IV)(t':Tag)(x':List IV)(tl:Tag)(xl:List IV)(tr:Tag)(xr:List IV)(ts:Tag)(xs:List IV)(st:ISt) :
  ICall prog gl 41 [.raw (.int .u8 rule),.agg [.raw (.int .u8 o),.raw (.string n),.sl t x,.sl t' x'],.agg [.sl tl xl,.sl tr xr],.sl ts xs] st
  (λr st'=>r=.agg [.raw (.int .u8 rule),.sl tl xl,.sl tr xr,.raw (.int .u8 o),.raw (.string n),.sl t x,.sl t' x',.raw (.bool false),.raw (.string ⟨#[]⟩),.sl ⟨true,.nil,0⟩ [],.raw (.string ⟨#[]⟩),.sl ts xs]/\st'=st):=by
 refine iI func41 ?_;simp only[go_sem,zE,zA,zL,reduceCtorEq,fits];exact yQ0 ⟨rfl,rfl⟩
theorem wYa {N:ISt}{r0 r1 r2 r3 r4 r5 r6 r7 r8 c0 c1 c2 c3 c4 c5 c6 c7 c8:IV}{rest:List IV}(h0:OI N r0 c0)(h1:OI N r1 c1)(h2:OI N r2 c2)(h3:OI N r3 c3)(h4:OI N r4 c4)(h5:OI N r5 c5)(h6:OI N r6 c6)(h7:OI N r7 c7)(h8:OI N r8 c8) :
  ∀(i:Nat) (r c:IV),(r0::r1::r2::r3::r4::r5::r6::r7::r8::rest)[i]?=some r->[c0,c1,c2,c3,c4,c5,c6,c7,c8][i]?=some c->OI N r c
 | 0,_,_,h,k=>by cases h;cases k;exact h0
 | 1,_,_,h,k=>by cases h;cases k;exact h1
 | 2,_,_,h,k=>by cases h;cases k;exact h2
 | 3,_,_,h,k=>by cases h;cases k;exact h3
 | 4,_,_,h,k=>by cases h;cases k;exact h4
 | 5,_,_,h,k=>by cases h;cases k;exact h5
 | 6,_,_,h,k=>by cases h;cases k;exact h6
 | 7,_,_,h,k=>by cases h;cases k;exact h7
 | 8,_,_,h,k=>by cases h;cases k;exact h8
 | i+9,_,_,_,k=>by simp at k
theorem len9:∀ {l:List IV},9<=l.length->∃r0 r1 r2 r3 r4 r5 r6 r7 r8 rest,l=r0::r1::r2::r3::r4::r5::r6::r7::r8::rest
 | r0::r1::r2::r3::r4::r5::r6::r7::r8::rest,_=>⟨r0,r1,r2,r3,r4,r5,r6,r7,r8,rest,rfl⟩
 | [],h=>by simp at h
 | [_],h=>by simp at h
 | [_,_],h=>by simp at h
 | [_,_,_],h=>by simp at h
 | [_,_,_,_],h=>by simp at h
 | [_,_,_,_,_],h=>by simp at h
 | [_,_,_,_,_,_],h=>by simp at h
 | [_,_,_,_,_,_,_],h=>by simp at h
 | [_,_,_,_,_,_,_,_],h=>by simp at h
theorem xZo {N:ISt}{r:IV}{t:Tag}{xs:List IV}(hr:rawC r)(h:OI N r (.sl t xs)):∃v,r=.raw v:=by
 rcases hr with⟨v,rfl⟩|rfl
 ·exact⟨v,rfl⟩
 ·cases h
theorem xUe {N:ISt}{v:Value}{ts:Tag}{z:IV}(hraw:zQ4 N)(h:OI N (.raw v) (.sl ts [z])){b c:Bool}{w w' o:Int}{n:ByteArray}{t t' tt:Tag}{xs ys zs:List IV}
  (hz:z=.agg [.raw (.bool b),.raw (.int .i64 w),.raw (.int .u8 o),.raw (.string n),.sl t xs,.sl t' ys,.raw (.bool c),.raw (.int .i64 w'),.sl tt zs]) :
  ∃g cap v4 v5 v8 rest,v=.slice (some ⟨g,0,none⟩) 1 cap/\ts.cap=.app g/\ts.es=9/\1<=cap/\cap*9<=rest.length+9/\N g=some (.box (.raw (.bool b)::.raw (.int .i64 w)::.raw (.int .u8 o)::.raw (.string n)::.raw v4::.raw v5::.raw (.bool c)::.raw (.int .i64 w')::.raw v8::rest)) /\
   OI N (.raw v4) (.sl t xs)/\OI N (.raw v5) (.sl t' ys)/\OI N (.raw v8) (.sl tt zs):=by
 subst hz;cases h with
 | sl g cap _ _ cs hcap hlen hcl hs hst hroom h =>
  have he:9=ts.es:=hs _ (List.mem_singleton.2 rfl);have hc1:1<=cap:=hcl;rw[<- he] at hroom;obtain⟨r0,r1,r2,r3,r4,r5,r6,r7,r8,rest,rfl⟩:=len9 (l:=cs) (by omega);have hC:=hraw _ _ hst;have k:=λi r c hr hc=>h i r c hr (by simpa[IV.cells] using hc);obtain rfl:=yXb (k 0 _ _ rfl rfl);obtain rfl:=yXb (k 1 _ _ rfl rfl);obtain rfl:=yXb (k 2 _ _ rfl rfl);obtain rfl:=yXb (k 3 _ _ rfl rfl);obtain⟨v4,rfl⟩:=xZo (hC r4 (by simp)) (k 4 _ _ rfl rfl);obtain⟨v5,rfl⟩:=xZo (hC r5 (by simp)) (k 5 _ _ rfl rfl);obtain rfl:=yXb (k 6 _ _ rfl rfl);obtain rfl:=yXb (k 7 _ _ rfl rfl);obtain⟨v8,rfl⟩:=xZo (hC r8 (by simp)) (k 8 _ _ rfl rfl);refine⟨g,cap,v4,v5,v8,rest,rfl,hcap,he.symm,hc1,?_,hst,k 4 _ _ rfl rfl,k 5 _ _ rfl rfl,k 8 _ _ rfl rfl⟩;simpa using hroom
theorem xUf {N:ISt}{g cap:Nat}{ts:Tag}{b c:Bool}{w w' o:Int}{n:ByteArray}{t t' tt:Tag}{xs ys zs rest:List IV}{v4 v5 v8:Value}(h1:ts.cap=.app g)(h2:ts.es=9)(h3:1<=cap)(h4:cap*9<=rest.length+9)
  (h5:N g=some (.box (.raw (.bool b)::.raw (.int .i64 w)::.raw (.int .u8 o)::.raw (.string n)::.raw v4::.raw v5::.raw (.bool c)::.raw (.int .i64 w')::.raw v8::rest))) (h6:OI N (.raw v4) (.sl t xs)) (h7:OI N (.raw v5) (.sl t' ys)) (h8:OI N (.raw v8) (.sl tt zs)) :
  OI N (.raw (.slice (some ⟨g,0,none⟩) 1 cap)) (.sl ts [.agg [.raw (.bool b),.raw (.int .i64 w),.raw (.int .u8 o),.raw (.string n),.sl t xs,.sl t' ys,.raw (.bool c),.raw (.int .i64 w'),.sl tt zs]]):=by
 refine .sl g cap ts [_] _ h1 (by simp) h3 (λx hx=>by rw[List.mem_singleton.1 hx];exact h2.symm) h5 (by rw[h2];simpa using h4) ?_;simp only[List.flatMap_cons,List.flatMap_nil,List.append_nil,IV.cells];exact wYa (.refl _) (.refl _) (.refl _) (.refl _) h6 h7 (.refl _) (.refl _) h8
theorem wWi {N:ISt}{v:Value}{t:Tag}{xs:List IV}(h:OI N (.raw v) (.sl t xs)):(IV.raw v).one=true:=by
 cases h<;>rfl
theorem vQ5 {N:ISt}{y z:IV}(hraw:zQ4 N)(hz:IsNd (n1 false) z)(ho:OI N y z)(hy:rawY y) :
  ∃o n v4 v5 g1 c1 o2 m2 w4 w5 q1 g2 c2 o3 m3 u4 u5 u8 q2,y=.agg [.raw (.bool false),.raw (.int .i64 0),.raw (.int .u8 o),.raw (.string n),.raw v4,.raw v5,.raw (.bool false),.raw (.int .i64 0),.raw (.slice (some ⟨g1,0,none⟩) 1 c1)]/\(IV.raw v4).one=true/\(IV.raw v5).one=true/\1<=c1/\1<=c2 /\
   N g1=some (.box (.raw (.bool false)::.raw (.int .i64 0)::.raw (.int .u8 o2)::.raw (.string m2)::.raw w4::.raw w5::.raw (.bool false)::.raw (.int .i64 0)::.raw (.slice (some ⟨g2,0,none⟩) 1 c2)::q1)) /\
   N g2=some (.box (.raw (.bool false)::.raw (.int .i64 0)::.raw (.int .u8 o3)::.raw (.string m3)::.raw u4::.raw u5::.raw (.bool true)::.raw (.int .i64 0)::.raw u8::q2)) /\
   ∃z',IsNd (n1 true) z'/\OI (N.put g2 (some (.box (.raw (.bool true)::.raw (.int .i64 0)::.raw (.int .u8 o3)::.raw (.string m3)::.raw u4::.raw u5::.raw (.bool true)::.raw (.int .i64 0)::.raw u8::q2)))) y z':=by
 obtain⟨o,n,t,xs,t',ys,ts,zs,rfl,hf,e1,hzs⟩:=IsNd.mk hz;obtain⟨z2,_,rfl,hz2,hnil⟩:=(show ∃y ys,zs=y::ys/\IsNd (n2 false) y/\IsNds [] ys by simpa only[IsNds] using hzs)
 obtain rfl:_=[]:=hnil;obtain⟨o2,m2,t2,xs2,t2',ys2,ts2,zs2,hz2e,hf2,e2,hzs2⟩:=IsNd.mk hz2;obtain⟨z3,_,rfl,hz3,hnil⟩:=(show ∃y ys,zs2=y::ys/\IsNd (n3 false) y/\IsNds [] ys by simpa only[IsNds] using hzs2)
 obtain rfl:_=[]:=hnil;obtain⟨o3,m3,t3,xs3,t3',ys3,ts3,zs3,hz3e,hf3,e3,hzs3⟩:=IsNd.mk hz3;have hxs:xs=[]/\IsFms [xmP,xmN] ys:=by
  obtain⟨_,_,_,_,he,_,_,i1,_,i2⟩:=IsFm.mk hf;cases he;exact⟨i1,i2⟩
 have hxs2:xs2=[]/\IsFms [xmP] ys2:=by
  obtain⟨_,_,_,_,he,_,_,i1,_,i2⟩:=IsFm.mk hf2;cases he;exact⟨i1,i2⟩
 have hxs3:xs3=[]/\IsFms [] ys3:=by
  obtain⟨_,_,_,_,he,_,_,i1,_,i2⟩:=IsFm.mk hf3;cases he;exact⟨i1,i2⟩
 obtain⟨rfl,hys⟩:=hxs;obtain⟨rfl,hys2⟩:=hxs2;obtain⟨rfl,hys3⟩:=hxs3;cases ho with
 | refl =>
  simp only[rawY,zKg] at hy;exact absurd hy (by simp)
 | agg rs _ hl h =>
 obtain⟨r0,r1,r2,r3,r4,r5,r6,r7,r8,rest,rfl⟩:=len9 (l:=rs) (by rw[hl];simp);obtain rfl:rest=[]:=by simpa using hl
 simp only[rawY,zKg] at hy;obtain⟨_,_,_,_,y4,y5,_,_,y8,_⟩:=hy;obtain rfl:=yXb (h 0 _ _ rfl rfl);obtain rfl:=yXb (h 1 _ _ rfl rfl);obtain rfl:=yXb (h 2 _ _ rfl rfl);obtain rfl:=yXb (h 3 _ _ rfl rfl);obtain rfl:=yXb (h 6 _ _ rfl rfl);obtain rfl:=yXb (h 7 _ _ rfl rfl);have hrY:∀ {r:IV} {t:Tag} {xs:List IV},rawY r->OI N r (.sl t xs)->∃v,r=.raw v:=λ{r t xs} hr h=>by
  cases h with
  | refl=>simp only[rawY] at hr
  | nil=>exact⟨_,rfl⟩
  | sl=>exact⟨_,rfl⟩
 have h4:=h 4 _ _ rfl rfl;have h5:=h 5 _ _ rfl rfl;have h8:=h 8 _ _ rfl rfl;obtain⟨v4,rfl⟩:=hrY y4 h4;obtain⟨v5,rfl⟩:=hrY y5 h5;obtain⟨v8,rfl⟩:=hrY y8 h8;obtain⟨g1,c1,w4,w5,w8,q1,rfl,ht1,he1,hc1,hr1,hN1,k4,k5,k8⟩:=xUe hraw h8 hz2e;obtain⟨g2,c2,u4,u5,u8,q2,rfl,ht2,he2,hc2,hr2,hN2,l4,l5,l8⟩:=xUe hraw k8 hz3e;have hg:g1≠g2:=λhg=>by
  rw[hg,hN2] at hN1;cases hN1
 have hlen:(.raw (.bool true)::.raw (.int .i64 0)::.raw (.int .u8 o3)::.raw (.string m3)::.raw u4::.raw u5::.raw (.bool true)::.raw (.int .i64 0)::.raw u8::q2:List IV).length=(.raw (.bool false)::.raw (.int .i64 0)::.raw (.int .u8 o3)::.raw (.string m3)::.raw u4::.raw u5::.raw (.bool true)::.raw (.int .i64 0)::.raw u8::q2:List IV).length:=by simp only[List.length_cons]
 have hb:∃b,(.raw (.bool false)::.raw (.int .i64 0)::.raw (.int .u8 o3)::.raw (.string m3)::.raw u4::.raw u5::.raw (.bool true)::.raw (.int .i64 0)::.raw u8::q2:List IV)[0]?=some (.raw (.bool b)):=⟨false,rfl⟩
 have hes:zs3=[]:=by simpa only[IsNds] using hzs3
 subst hes;refine⟨o,n,v4,v5,g1,c1,o2,m2,w4,w5,q1,g2,c2,o3,m3,u4,u5,u8,q2,rfl,wWi h4,wWi h5,hc1,hc2,hN1,hN2,.agg [.raw (.bool false),.raw (.int .i64 0),.raw (.int .u8 o),.raw (.string n),.sl t [],.sl t' ys,.raw (.bool false),.raw (.int .i64 0),
  .sl ts [.agg [.raw (.bool false),.raw (.int .i64 0),.raw (.int .u8 o2),.raw (.string m2),.sl t2 [],.sl t2' ys2,.raw (.bool false),.raw (.int .i64 0),.sl ts2 [.agg [.raw (.bool true),.raw (.int .i64 0),.raw (.int .u8 o3),.raw (.string m3),.sl t3 [],.sl t3' ys3,.raw (.bool true),.raw (.int .i64 0),.sl ts3 []]]]]],?_,?_⟩
 ·simp only[n1,n2,n3,IsNd,IsNds];exact⟨_,_,_,_,_,_,_,_,rfl,hf,e1,_,_,rfl,⟨_,_,_,_,_,_,_,_,rfl,hf2,e2,_,_,rfl,⟨_,_,_,_,_,_,_,_,rfl,hf3,e3,rfl⟩,rfl⟩,rfl⟩
 ·refine .agg _ _ rfl (wYa (rest:=[]) (.refl _) (.refl _) (.refl _) (.refl _) (zVh hN2 hlen h4) (zX5 hN2 hb hlen _ _ (Nat.lt_succ_self _) rfl _ _ _ hys h5) (.refl _) (.refl _) ?_);refine xUf ht1 he1 hc1 hr1 (by rw[yQ9 hg];exact hN1) (zVh hN2 hlen k4) (zX5 hN2 hb hlen _ _ (Nat.lt_succ_self _) rfl _ _ _ hys2 k5) ?_;exact xUf ht2 he2 hc2 hr2 (ISt.put_same ..) (zVh hN2 hlen l4) (zX5 hN2 hb hlen _ _ (Nat.lt_succ_self _) rfl _ _ _ hys3 l5) (zVh hN2 hlen l8)
set_option maxRecDepth 8000
theorem ord3 (x y z:Operand):yZk 3 [(0,x),(1,y),(2,z)]=true:=rfl
theorem ord4 (x y z w:Operand):yZk 4 [(0,x),(1,y),(2,z),(3,w)]=true:=rfl
theorem xXx {ca:Nat}{s:Sq}{rule:Nat}{main:Fm}{term:Tm}{name:ByteArray}{r:Rw}{ad:List Sq}(h1:yXs ca s=true)(h2:rowS ca rule=some r)(h3:yJ6 ca rule r main term name=(ad,0))
  (h4:r.left=true->hasF s.l main=true) (h5:r.right=true->hasF s.r main=true) (_:r.asks≠2):yXt ca s rule main term name=(ad,0):=by
 unfold yXt;rw[h1,h2];simp only[Bool.not_true,bFt,if_false,h3];obtain⟨rl,rr,op,asks⟩:=r;simp only at h4 h5 ⊢;have e1:(rl&&!hasF s.l main)=false:=by
  cases rl
  ·rfl
  ·rw[h4 rfl];rfl
 have e2:(rr&&!hasF s.r main)=false:=by
  cases rr
  ·rfl
  ·rw[h5 rfl];rfl
 rw[e1,e2];rfl
theorem xHas {l:List Fm}{f:Fm}(h:f∈l)(hr:f.right=true):hasF l f=true:=yYq.2 ⟨f,h,zX9 hr⟩
theorem wVi {s:Sq}(h:(decide (s.l.length<=64)&&decide (s.r.length<=64)&&s.l.all (fmB 1)&&s.r.all (fmB 1))=true):yXs 1 s=true:=by
 unfold yXs;rw[show yXo 1=true from rfl,Bool.true_and,h];rfl
theorem xAll {l m:List Fm}(h:∀f∈l,f∈m/\f.right=true):allF l m=true:=List.all_eq_true.2 λf hf=>xHas (h f hf).1 (h f hf).2
theorem zG0 {ca rule:Nat}{s:Sq}{main:Fm}{term:Tm}{name:ByteArray}{sub:List Tr}{ad:List Sq}(h:yXt ca s rule main term name=(ad,0))(hl:sub.length=ad.length)(hp:yXm s ad sub=true):yZh ca (.mk rule s main term name sub)=0:=by
 simp only[yZh];rw[h];simp only[ne_eq,nTf,if_false,hl,hp,if_true]
theorem vXv:yXt 1 ⟨[xmR,xmA],[xmR]⟩ 5 xmA xmT ⟨#[]⟩=([⟨[xmP,xmQ],[]⟩],0):=xXx (r:=⟨true,false,4,0⟩) (wVi (by decide)) rfl (by rfl) (λ_=>xHas (by simp) (by decide)) (λh=>by cases h) (by decide)
theorem vXu:yXt 1 ⟨[xmP,xmQ,xmR,xmA],[xmR]⟩ 1 xmR xmT ⟨#[]⟩=([],0):=xXx (r:=⟨true,true,0,0⟩) (wVi (by decide)) rfl (by rfl) (λ_=>xHas (by simp) (by decide)) (λ_=>xHas (by simp) (by decide)) (by decide)
theorem xYf:yXc 1 xmX=([],0):=by
 have h1:yZh 1 xmX=0:=zG0 vXv rfl (by
  have a1:allF [xmP,xmQ,xmR,xmA] [xmR,xmA,xmP,xmQ]=true:=xAll λf hf=>by
   simp only[List.mem_cons,List.not_mem_nil,or_false] at hf;rcases hf with rfl|rfl|rfl|rfl<;>exact⟨by simp,by decide⟩
  have a2:allF [xmR] [xmR]=true:=xAll λf hf=>by
   simp only[List.mem_cons,List.not_mem_nil,or_false] at hf;subst hf;exact⟨by simp,by decide⟩
  simp only[yXm,Tr.sq,Sq.plus,yXj,List.append_nil,List.cons_append,List.nil_append,a1,a2,Bool.and_self])
 have h2:yZh 1 (.mk 1 ⟨[xmP,xmQ,xmR,xmA],[xmR]⟩ xmR xmT ⟨#[]⟩ [])=0:=zG0 vXu rfl rfl;unfold yXc;rw[show xmX.walk []=[([],xmX),([0],.mk 1 ⟨[xmP,xmQ,xmR,xmA],[xmR]⟩ xmR xmT ⟨#[]⟩ [])] from rfl];simp only[yQr,h1,h2,if_true];rfl
theorem wVq:yKo xmS (n1 false)=(xmW,0):=by
 rw[yKo,if_neg (by rw[zYz];decide),if_neg (by rw[xYh];decide),xXw]
theorem vJm:yK2 xmW=(n1 true,0):=by
 rw[yK2,if_neg (by rw[zYy,wXe];decide),if_neg (by decide),wXd]
theorem vXl:yVf xmW=(xmV,0):=by
 rw[yVf,if_neg (by rw[zYy];decide)];rfl
theorem vXk:yVf xmX=(xmY,0):=by
 rw[yVf,if_neg (by rw[xYf];decide)];rfl
theorem wQm:Grows (n1 false) (yQp xmS):=by
 simp only[n1,n2,n3,Grows,xYi];exact⟨trivial,rfl,by decide,⟨rfl,rfl,by decide,⟨rfl,rfl,rfl⟩,trivial⟩,trivial⟩
def tagJ:List Tr->Tag
 | []=>⟨true,.nil,0⟩
 | _::_=>⟨true,.full,12⟩
theorem wG4 (l:List Tr):okEs (tagJ l) 12:=by cases l<;>simp[tagJ,okEs]
mutual
def trJ:Tr->IV
 | .mk rule s (.mk o fn us fs) (.mk v un ts) n sub=>.agg [.raw (.int .u8 rule),.sl (tagF s.l) (fmsI s.l),.sl (tagF s.r) (fmsI s.r),.raw (.int .u8 o),.raw (.string fn),.sl (tagT us) (tmsI us),.sl (tagF fs) (fmsI fs),.raw (.bool v),.raw (.string un),.sl (tagT ts) (tmsI ts),.raw (.string n),.sl (tagJ sub) (trsJ sub)]
def trsJ:List Tr->List IV
 | []=>[]
 | a::l=>trJ a::trsJ l
end
mutual
def bytJ:Tr->Bool
 | .mk rule s f (.mk _ _ ts) _ sub=>ts.isEmpty&&decide (rule<256)&&zZ1 s.l&&zZ1 s.r&&wJm f&&wKt sub
def wKt:List Tr->Bool
 | []=>true
 | a::l=>bytJ a&&wKt l
end
mutual
theorem zGf:∀t:Tr,bytJ t=true->IsTr t (trJ t)
 | .mk rule s (.mk o fn us fs) (.mk v un ts) n sub,h=>by
  simp only[bytJ,bAt,dTe,List.isEmpty_iff] at h;obtain⟨⟨⟨⟨⟨rfl,h1⟩,h2⟩,h3⟩,h4⟩,h5⟩:=h;have hf:=wY7 (.mk o fn us fs) h4;have ht:IsTm (.mk v un []) (tmI (.mk v un [])):=⟨_,_,rfl,xYw [],rfl⟩
  simp only[fmI] at hf;simp only[tmI] at ht;simp only[IsTr];exact⟨tagF s.l,fmsI s.l,tagF s.r,fmsI s.r,o,fn,tagT us,tmsI us,tagF fs,fmsI fs,v,un,tagT [],tmsI [],tagJ sub,trsJ sub,by simp only[trJ],h1,zXn _,zQg _ h2,zXn _,zQg _ h3,hf,ht,wG4 _,xYr sub h5⟩
theorem xYr:∀l:List Tr,wKt l=true->IsTrs l (trsJ l)
 | [],_=>rfl
 | a::l,h=>by
  simp only[wKt,bAt] at h;exact⟨_,_,by simp only[trsJ],zGf a h.1,xYr l h.2⟩
end
def sqI (s:Sq):IV:=.agg [.sl (tagF s.l) (fmsI s.l),.sl (tagF s.r) (fmsI s.r)]
theorem wVw (s:Sq)(h:(zZ1 s.l&&zZ1 s.r)=true):IsSq s (sqI s):=by
 rw[bAt] at h;exact⟨_,_,_,_,rfl,zXn _,zQg _ h.1,zXn _,zQg _ h.2⟩
theorem xG2 {s:Sq}{x:IV}(h:IsSq s x):IsSq s (age x):=by
 obtain⟨t1,x1,t2,x2,rfl,e1,i1,e2,i2⟩:=h;simp only[age,ages];exact⟨_,_,_,_,rfl,yXh e1,i1.aged,yXh e2,i2.aged⟩
theorem wJ1 (G:Gl gl)(hgl:∀g x,gl g=some x->age x=x)(st:ISt)(h0:∀b,st b=none):ICall prog gl 15 [] st (λr st'=>r=.raw (.bool true)/\st'=st):=by
 have hfl:flatSt st:=λb o hb=>by rw[h0] at hb;cases hb
 have hrw:zQ4 st:=λb cs hb=>by rw[h0] at hb;cases hb
 have hB:=ICall.own (K:=λr=>∃z,r=.tup [z,.raw (.int .i64 0)]/\IsNd (n1 false) z) (args:=[.raw (.int .u8 1),sqI xmS]) hfl hgl ((xXv gl G xmS (age (sqI xmS)) (xG2 (wVw xmS (by decide))) (by decide) xYg st).mono λr st' ⟨⟨e,z,h1,h2⟩,h4⟩=>by
  rcases h2 with⟨rfl,n,h2,h3,hg,_⟩|⟨_,_,h2⟩
  ·rw[hg.one wQm] at h2;exact⟨h4,by rw[h1];exact⟨h3,trivial,trivial⟩,z,h1,h2⟩
  ·exact absurd (h2 _ wQm) (by decide))
 refine ICall.intro (c:=cf prog gl [] [(7,[0,1,2,3,4,5,6,9,10,11,13,14,15,16,24,7,8,12,17,18,19,20,21,22,23,25]),(10,[0,1,2,3,4,5,8,9,10,12,13,21,6,7,11,14,15,16,17,18,19,20,22]),(13,[0,1,2,3,5,6,9,10,11,12,13,14,16,17,27,4,7,8,15,18,19,20,21,22,23,24,25,26,28,29]),(14,[0,1,2,3,4,5,6,7,8,9,10,11,12,13,14,15,16,17,18,19,20,21,22,23,24,25,26,28,29,27,30,31,32,33,34,35,36,37,38,39,40])]) func15 rfl (by show _<=199;simp) (by kernel_rfl) ?_;simp only[go_sem,zE,zB,zA,zM,zS,zL,reduceCtorEq,fits,yZ0]
 repeat (first
  | (refine (s_p gl _ _).mono ?_;rintro _ st ⟨rfl,rfl⟩;simp only[go_sem,zE,zB,zA,zM,zS,zL,reduceCtorEq,fits,yQ1,yQe,ord3,ord4,yZ0,decide_true,fits])
  | (refine (s_of gl _ _ _ _).mono ?_;rintro _ st ⟨rfl,rfl⟩;simp only[go_sem,zE,zB,zA,zM,zS,zL,reduceCtorEq,fits,yQ1,yQe,ord3,ord4,yZ0,decide_true,fits])
  | (refine (s_fs gl _ _ _).mono ?_;rintro _ st ⟨rfl,rfl⟩;simp only[go_sem,zE,zB,zA,zM,zS,zL,reduceCtorEq,fits,yQ1,yQe,ord3,ord4,yZ0,decide_true,fits])
  | (refine (s_sq gl _ _ _ _ _).mono ?_;rintro _ st ⟨rfl,rfl⟩;simp only[go_sem,zE,zB,zA,zM,zS,zL,reduceCtorEq,fits,yQ1,yQe,ord3,ord4,yZ0,decide_true,fits])
  | (refine (zV5 gl _ _ _ _ _ _ _ _ _ _ _ _ _ _).mono ?_;rintro _ st ⟨rfl,rfl⟩;simp only[go_sem,zE,zB,zA,zM,zS,zL,reduceCtorEq,fits,yQ1,yQe,ord3,ord4,yZ0,decide_true,fits]))
 refine hB.mono ?_;rintro _ st1 ⟨_,hfl1,hrw1,_,⟨z,rfl,hz⟩,hO,hY⟩;obtain⟨y,rfl,hOy,hYy⟩:=zWt hO hY;obtain⟨o,n,v4,v5,g1,c1,o2,m2,w4,w5,q1,g2,c2,o3,m3,u4,u5,u8,q2,rfl,ho4,ho5,hc1,hc2,hN1,hN2,z',hz',hO'⟩:=vQ5 (hrw1 hrw) hz hOy hYy;have ho8:(IV.raw (Value.slice (some ⟨g1,0,none⟩) 1 c1)).one=true:=rfl;have hTr:=ICall.lentFix (K:=λr=>∃y,r=.tup [y,.raw (.int .i64 0)]/\IsTr xmW y) (args:=[sqI xmS,.agg [.raw (.bool false),.raw (.int .i64 0),.raw (.int .u8 o),.raw (.string n),.raw v4,.raw v5,.raw (.bool false),.raw (.int .i64 0),.raw (.slice (some ⟨g1,0,none⟩) 1 c1)]]) (args':=[sqI xmS,age z]) hfl1 hgl ⟨_,_,rfl,.inl rfl,_,_,rfl,.inr ⟨z,hOy,rfl⟩,rfl⟩
  ((wX0 gl G xmS (age (sqI xmS)) (xG2 (wVw xmS (by decide))) (by decide) (n1 false) (age (age z)) hz.aged.aged (by decide) (yKk st1)).mono λr st' ⟨⟨y,h1,h2,h3⟩,h4⟩=>⟨h4,by rw[h1];exact⟨h3,trivial,trivial⟩,age y,by rw[h1,wVq];rfl,by rw[wVq] at h2;exact zXl h2⟩)
 simp only[go_sem,zE,zB,zA,zM,zS,zL,reduceCtorEq,fits,ho4,ho5,ho8];refine hTr.mono ?_;rintro _ st ⟨rfl,y,rfl,hy⟩;have hNo:=λst=>vW8 gl G xmW y hy (by decide) (by decide) st;have hUs:=λst=>wYi gl G xmW y hy (by decide) (by decide) st;have hSa:=λw hw st=>yKz gl xmW y w hy hw (by decide) st;rw[vJm] at hNo;rw[vXl] at hUs;obtain⟨rule',tl',xl',tr1',xr',op',fn',ta',xa',tb',xb',v',un',tu',xu',n',ts2,xs2,rfl⟩:=yX4 hy;simp only[go_sem,zE,zB,zA,zM,zS,zL,reduceCtorEq,fits,yQ1,yQe,ord3,ord4,yZ0,decide_true]
 repeat (first
  | (refine (s_p gl _ _).mono ?_;rintro _ st ⟨rfl,rfl⟩;simp only[go_sem,zE,zB,zA,zM,zS,zL,reduceCtorEq,fits,yQ1,yQe,ord3,ord4,yZ0,decide_true,fits])
  | (refine (s_of gl _ _ _ _).mono ?_;rintro _ st ⟨rfl,rfl⟩;simp only[go_sem,zE,zB,zA,zM,zS,zL,reduceCtorEq,fits,yQ1,yQe,ord3,ord4,yZ0,decide_true,fits])
  | (refine (s_fs gl _ _ _).mono ?_;rintro _ st ⟨rfl,rfl⟩;simp only[go_sem,zE,zB,zA,zM,zS,zL,reduceCtorEq,fits,yQ1,yQe,ord3,ord4,yZ0,decide_true,fits])
  | (refine (s_sq gl _ _ _ _ _).mono ?_;rintro _ st ⟨rfl,rfl⟩;simp only[go_sem,zE,zB,zA,zM,zS,zL,reduceCtorEq,fits,yQ1,yQe,ord3,ord4,yZ0,decide_true,fits])
  | (refine (zV5 gl _ _ _ _ _ _ _ _ _ _ _ _ _ _).mono ?_;rintro _ st ⟨rfl,rfl⟩;simp only[go_sem,zE,zB,zA,zM,zS,zL,reduceCtorEq,fits,yQ1,yQe,ord3,ord4,yZ0,decide_true,fits]))
 refine (hNo _).mono ?_;rintro _ st ⟨⟨m,rfl,hm⟩,rfl⟩;have hSm:=λw hw st=>yGd gl (n1 true) m w hm hw (by decide) st;obtain⟨v1,w1,o1,k1,t1,y1,t2,y2,a1,w2,t3,y3,rfl⟩:=yXq hm;simp only[go_sem,zE,zB,zA,zM,zS,zL,reduceCtorEq,fits,yQ1,yQe,ord3,ord4,yZ0,decide_true];refine (hUs _).mono ?_;rintro _ st ⟨⟨u,rfl,hu⟩,rfl⟩;have hSu:=λw hw st=>yKz gl xmV u w hu hw (by decide) st;obtain⟨rule3,tl3,xl3,tr3,xr3,op3,fn3,ta3,xa3,tb3,xb3,v3,un3,tu3,xu3,nn3,ts3,xs3,rfl⟩:=yX4 hu;simp only[go_sem,zE,zB,zA,zM,zS,zL,reduceCtorEq,fits,yQ1,yQe,ord3,ord4,yZ0,decide_true]
 repeat (first
  | (refine (s_p gl _ _).mono ?_;rintro _ st ⟨rfl,rfl⟩;simp only[go_sem,zE,zB,zA,zM,zS,zL,reduceCtorEq,fits,yQ1,yQe,ord3,ord4,yZ0,decide_true,fits])
  | (refine (s_of gl _ _ _ _).mono ?_;rintro _ st ⟨rfl,rfl⟩;simp only[go_sem,zE,zB,zA,zM,zS,zL,reduceCtorEq,fits,yQ1,yQe,ord3,ord4,yZ0,decide_true,fits])
  | (refine (s_fs gl _ _ _).mono ?_;rintro _ st ⟨rfl,rfl⟩;simp only[go_sem,zE,zB,zA,zM,zS,zL,reduceCtorEq,fits,yQ1,yQe,ord3,ord4,yZ0,decide_true,fits])
  | (refine (s_sq gl _ _ _ _ _).mono ?_;rintro _ st ⟨rfl,rfl⟩;simp only[go_sem,zE,zB,zA,zM,zS,zL,reduceCtorEq,fits,yQ1,yQe,ord3,ord4,yZ0,decide_true,fits])
  | (refine (zV5 gl _ _ _ _ _ _ _ _ _ _ _ _ _ _).mono ?_;rintro _ st ⟨rfl,rfl⟩;simp only[go_sem,zE,zB,zA,zM,zS,zL,reduceCtorEq,fits,yQ1,yQe,ord3,ord4,yZ0,decide_true,fits]))
 have hUx:=λst=>wYi gl G xmX (trJ xmX) (zGf xmX (by decide)) (by decide) (by decide) st;rw[vXk] at hUx;refine (hUx _).mono ?_;rintro _ st ⟨⟨xx,rfl,hxx⟩,rfl⟩;have hSx:=λw hw st=>yKz gl xmY xx w hxx hw (by decide) st;obtain⟨rule4,tl4,xl4,tr4,xr4,op4,fn4,ta4,xa4,tb4,xb4,v4',un4,tu4,xu4,nn4,ts4,xs4,rfl⟩:=yX4 hxx;have hz1:IntKind.i64.wrap ((0:Int)+((0:Nat):Int))=0:=rfl;have hz2:IntKind.i64.wrap (((0:Nat):Int)+((0:Nat):Int))=0:=rfl;have hz3:IntKind.i64.wrap ((0:Int)+(0:Int))=0:=rfl;simp only[go_sem,zE,zB,zA,zM,zS,zL,reduceCtorEq,fits,yQ1,yQe,ord3,ord4,yZ0,decide_true,hz1,hz2,hz3];refine (hSa (trJ xmW) (zGf xmW (by decide)) _).mono ?_;rintro _ st ⟨rfl,rfl⟩;simp only[go_sem,zE,zB,zA,zM,zS,zL,reduceCtorEq,fits,yQ1,yQe,ord3,ord4,yZ0,decide_true,hz1,hz2,hz3];refine (hSu (trJ xmV) (zGf xmV (by decide)) _).mono ?_;rintro _ st ⟨rfl,rfl⟩;simp only[go_sem,zE,zB,zA,zM,zS,zL,reduceCtorEq,fits,yQ1,yQe,ord3,ord4,yZ0,decide_true,hz1,hz2,hz3]
 repeat (first
  | (refine (s_p gl _ _).mono ?_;rintro _ st ⟨rfl,rfl⟩;simp only[go_sem,zE,zB,zA,zM,zS,zL,reduceCtorEq,fits,yQ1,yQe,ord3,ord4,yZ0,decide_true,fits])
  | (refine (s_of gl _ _ _ _).mono ?_;rintro _ st ⟨rfl,rfl⟩;simp only[go_sem,zE,zB,zA,zM,zS,zL,reduceCtorEq,fits,yQ1,yQe,ord3,ord4,yZ0,decide_true,fits])
  | (refine (s_fs gl _ _ _).mono ?_;rintro _ st ⟨rfl,rfl⟩;simp only[go_sem,zE,zB,zA,zM,zS,zL,reduceCtorEq,fits,yQ1,yQe,ord3,ord4,yZ0,decide_true,fits])
  | (refine (s_sq gl _ _ _ _ _).mono ?_;rintro _ st ⟨rfl,rfl⟩;simp only[go_sem,zE,zB,zA,zM,zS,zL,reduceCtorEq,fits,yQ1,yQe,ord3,ord4,yZ0,decide_true,fits])
  | (refine (zV5 gl _ _ _ _ _ _ _ _ _ _ _ _ _ _).mono ?_;rintro _ st ⟨rfl,rfl⟩;simp only[go_sem,zE,zB,zA,zM,zS,zL,reduceCtorEq,fits,yQ1,yQe,ord3,ord4,yZ0,decide_true,fits]))
 refine (hSx (trJ xmY) (zGf xmY (by decide)) _).mono ?_;rintro _ st ⟨rfl,rfl⟩;simp only[go_sem,zE,zB,zA,zM,zS,zL,reduceCtorEq,fits,yQ1,yQe,ord3,ord4,yZ0,decide_true,hz1,hz2,hz3];have hBr:=ICall.borrow (st:=st) (args:=[.agg [.raw (.bool false),.raw (.int .i64 0),.raw (.int .u8 o),.raw (.string n),.raw v4,.raw v5,.raw (.bool false),.raw (.int .i64 0),.raw (.slice (some ⟨g1,0,none⟩) 1 c1)]]) (K:=λr=>r=.raw (.int .i64 (1:Nat))) hfl1 ⟨_,_,rfl,.inr ⟨z,hOy,rfl⟩,rfl⟩
  ((zW2 gl (n1 false) (age z) hz.aged (by decide) (yKk st)).mono λr st' ⟨h1,h2⟩=>⟨h2,by rw[h1];trivial,h1⟩)
 refine hBr.mono ?_;rintro _ st ⟨rfl,rfl⟩;have d1:decide (((1:Nat):Int)=1)=true:=rfl;have d0:(0:Int).toNat=0:=rfl;have hst2:flatSt (st.put g2 (some (.box (.raw (.bool true)::.raw (.int .i64 0)::.raw (.int .u8 o3)::.raw (.string m3)::.raw u4::.raw u5::.raw (.bool true)::.raw (.int .i64 0)::.raw u8::q2)))):=λb o hb=>by
  rw[ISt.put_apply] at hb;split at hb
  ·cases hb;intro x hx;rcases List.mem_cons.1 hx with rfl|hx
   ·trivial
   ·exact hfl1 g2 _ hN2 x (List.mem_cons_of_mem _ hx)
  ·exact hfl1 b o hb
 have hSN:=λ(w:IV) (hw:IsNd (n1 true) w)=>ICall.borrow (P:=prog) (gl:=gl) (f:=26) (args:=[w,.agg [.raw (.bool false),.raw (.int .i64 0),.raw (.int .u8 o),.raw (.string n),.raw v4,.raw v5,.raw (.bool false),.raw (.int .i64 0),.raw (.slice (some ⟨g1,0,none⟩) 1 c1)]]) (args':=[w,age z']) (K:=λr=>r=.raw (.bool true)) hst2 ⟨_,_,rfl,.inl rfl,_,_,rfl,.inr ⟨z',hO',rfl⟩,rfl⟩ ((yGd gl (n1 true) w (age z') hw hz'.aged (by decide) (yKk _)).mono λr st' ⟨h1,h2⟩=>⟨h2,by rw[h1];trivial,h1⟩);simp only[go_sem,zE,zB,zA,zM,zS,zL,reduceCtorEq,fits,yQ1,yQe,ord3,ord4,yZ0,decide_true,d1,d0,hN1,hN2];rw[if_pos (by decide),if_pos (by decide)];refine (hSN _ hm).mono ?_;rintro _ _ ⟨rfl,rfl⟩;simp only[go_sem,zE,zB,zA,zM,zS,zL,reduceCtorEq,fits,ISt.put_same];exact yQb (λb o hb=>by rw[h0] at hb;cases hb) ⟨rfl,rfl⟩
set_option maxRecDepth 4000
theorem wKg {l:List Mk}(h:∀m∈l,m.f.size<=300):yVt (sqT l):=⟨λf hf=>by
 obtain⟨m,hm,_,rfl⟩:=yJ7.1 hf;have:=h m hm;omega,λf hf=>by
 obtain⟨m,hm,_,rfl⟩:=yJ7.1 hf;have:=h m hm;omega⟩
mutual
theorem xYt:∀(n:Nd)(l:List Mk)(p:List Nat),(yZi l p n).2=0->GoodT l->(∀m∈l,m.f.size<=300)->NA (yJc l n)
 | .mk m c w sub,l,p,h,hg,hs=>by
  rw[yZi] at h;have hw0:yV0 l m c w sub.length=0:=by
   split at h
   ·rename_i h';exact absurd h h'
   ·rename_i h';simpa using h'
  rw[if_neg (by rw[hw0];decide)] at h;obtain⟨hml,hcl,hfi,rfl,hsl⟩:=yJj hw0;rw[yJc,NA];have h1:=hs m hml;refine⟨wKg hs,by omega,by decide,?_⟩;cases c
  ·simp only[bFt,if_false] at h ⊢;exact xJd sub _ l p 0 h hg hs λq hq x hx=>⟨by
    obtain⟨h1,h2⟩:=(yWy (hg m hml).1 (hfi rfl) 0).2.2.1 q hq x hx;exact⟨h1,h2.trans (hg m hml).2⟩,Nat.le_trans (yGx (hg m hml).1 (hfi rfl) 0 q hq x hx) h1⟩
  ·trivial
theorem xJd:∀(ns:List Nd)(qs:List (List Mk))(l:List Mk)(p:List Nat)(i:Nat),(yX2 l p i qs ns).2=0->GoodT l->(∀m∈l,m.f.size<=300)->(∀q∈qs,∀x∈q,(fmB 1 x.f=true/\x.w=0)/\x.f.size<=300)->NAs (yXa l qs ns)
 | [],[],_,_,_,_,_,_,_=>trivial
 | [],_::_,_,_,_,_,_,_,_=>trivial
 | _::_,[],_,_,_,_,_,_,_=>trivial
 | n::ns,q::qs,l,p,i,h,hg,hs,hq=>by
  rw[yX2] at h;have h1:(yZi (yQu l q) (p++[i]) n).2=0:=by
   split at h
   ·exact h
   ·rename_i h';simpa using h'
  rw[if_neg (by rw[h1];decide)] at h;exact⟨xYt n _ _ h1 (hg.adds λx hx=>(hq q (by simp) x hx).1) λx hx=>(yV7.1 hx).elim (hs x) λh=>(hq q (by simp) x h).2,
   xJd ns qs l p _ h hg hs λq' hq'=>hq q' (by simp[hq'])⟩
end
theorem xY7 {s:Sq}(h:wFms s.l+wFms s.r<=300):∀m∈yQp s,m.f.size<=300:=λm hm=>by
 have h1:=yZy s.l;have h2:=yZy s.r;rcases (yKd.1 hm).2 with h|h
 ·have:=yXe h.2;omega
 ·have:=yXe h.2;omega
set_option maxRecDepth 8000
theorem xQ1 {l:List Fm}(h:fitL l)(hl:l.length<=64):yQ7 l<=1099511627776:=by
 have h1:=zQ1 (B:=1000000) (l:=l) h;have:l.length*1000000<=64*1000000:=Nat.mul_le_mul_right _ hl;omega
mutual
theorem vXq:∀ {t:Tr},NA t->yZ3 t=false->TB t
 | .mk _ s m u _ sub,h,hw=>by
  simp only[NA] at h;simp only[yZ3,Bool.or_eq_false_iff,decide_eq_false_iff_not,Nat.not_lt] at hw;simp only[TB];exact⟨xQ1 h.1.1 hw.1.1,xQ1 h.1.2 hw.1.2,by omega,by omega,wVv h.2.2.2 hw.2⟩
theorem wVv:∀ {l:List Tr},NAs l->yKp l=false->TBs l
 | [],_,_=>trivial
 | a::l,h,hw=>by
  simp only[NAs] at h;simp only[yKp,Bool.or_eq_false_iff] at hw;exact⟨vXq h.1 hw.1,wVv h.2 hw.2⟩
end
mutual
theorem wUa:∀ {n:Nd},okN n=true->NB n
 | .mk m _ _ sub,h=>by
  simp only[okN,bAt,dTe] at h;have:=zWj m.f;exact⟨by omega,wWr h.2⟩
theorem wWr:∀ {l:List Nd},okNs l=true->NBs l
 | [],_=>trivial
 | a::l,h=>by
  simp only[okNs,bAt] at h;exact⟨wUa h.1,wWr h.2⟩
end
theorem wVa {s:Sq}{n:Nd}(hw:wFms s.l+wFms s.r<=300)(hn:n.nodes<=1000):TB (yKo s n).1/\(yKo s n).1.steps<=1000:=by
 have h0:TB tr0/\tr0.steps<=1000:=⟨by simp[tr0,TB,TBs,yQ7,fm0,tm0,Fm.size,Tm.size,yQy],by decide⟩
 unfold yKo;split
 ·exact h0
 split
 ·exact h0
 ·rename_i h1 h2;obtain⟨c1,_,c3⟩:=zKa (Decidable.not_not.1 h1);refine⟨vXq (xYt n _ [] c3 (yJl c1) (xY7 hw)) (by rw[<- zYq];simpa using h2),?_⟩;have:=(yG1 n (yQp s) [] c3).1;simp only[this];exact hn
set_option maxHeartbeats 1000000 in
theorem wY4 (G:Gl gl)(hgl:∀g x,gl g=some x->age x=x)(s:Sq)(x:IV)(hx:IsSq s x)(hw:wFms s.l+wFms s.r<=300)(n:Nd)(z:IV)(hz:IsNd n z)(hok:okN n=true)(hn:n.nodes<=60)(st:ISt)(hfl:flatSt st) :
  ICall prog gl 10 [x,z] st (λr st'=>r=.raw (.bool true)/\st'=st):=by
 have hsl:=yZy s.l;have hsr:=yZy s.r;have hG:=λst=>wY5 gl _ n (Nat.lt_succ_self _) z hz (wUa hok) (by omega) st;have hL:=λst hfl=>wX5 gl s x hx (by omega) (by omega) st hfl;have hx0:=hx;have hz0:=hz;obtain⟨htb,hts⟩:=wVa (s:=s) (n:=n) hw (by omega);obtain⟨t1,x1,t2,x2,rfl,e1,i1,e2,i2⟩:=hx;obtain⟨_,_,_,_,_,_,_,_,_,_,_,_,rfl⟩:=yXq hz;refine ICall.intro (c:=cf prog gl [] [(2,[0,2,4,5,1,3,6,7]),(5,[0,1,2,3,4,5,6,7,8,9,10,11,13,12,14,15,16])]) func10 rfl (by show _<=57;simp) (by kernel_rfl) ?_;simp only[go_sem,zE,zA,zL];refine (hG _).mono ?_;rintro r st ⟨hr,rfl⟩;have hr0:=hr;obtain⟨_,_,_,_,_,_,_,_,_,_,_,_,rfl⟩:=yXq hr;have hT:=λst=>xYu gl _ n (Nat.lt_succ_self _) _ hr0 (wUa hok) (by omega) st;have hRT:=λst=>wGu gl s _ hx0 hw n _ hr0 (by omega) st;have hRB:=λst=>wWb gl _ n (Nat.lt_succ_self _) _ hr0 (by omega) st;simp only[go_sem,zE,zA,zL];refine (hT _).mono ?_;rintro q st ⟨hq,rfl⟩;have hq0:=hq;obtain⟨_,_,_,_,_,_,_,_,_,_,_,_,rfl⟩:=yXq hq;have hB:=λst=>zW2 gl n _ hq0 (by omega) st;have hM:=λst=>yGd gl n _ _ hq0 hz0 (by omega) st;simp only[go_sem,zE,zA];refine (hL _ hfl).mono ?_;rintro xa st1 ⟨hxa,hs1,hf1⟩;have hA1:LSq st1 s xa:=hxa.mono λc o hc=>(yGw hc).2;have hK:=wX6 gl s _ xa hx0 (by omega) (by omega) st1 hf1 hA1;obtain⟨za,hza,hoa⟩:=hA1.oi (by omega) (by omega);have hS:=ICall.lentOwn hf1 hgl (wWy (y:=_) hoa) (K:=λr=>∃y,r=.tup [y,.raw (.int .i64 (yKo s n).2)]/\IsTr (yKo s n).1 y/\dfr y)
  ((wX0 gl G s (age (age za)) hza.aged.aged hw n _ hq0.aged (by omega) (yKk st1)).mono λr st' ⟨⟨y,h1,h2,h3⟩,h4⟩=>⟨h4,by rw[h1];exact⟨h3,trivial,trivial⟩,y,h1,h2,h3⟩)
 obtain⟨pa,ca1,pb,cb1,rfl,_⟩:=hxa;simp only[go_sem,zE,zA,zL];refine hS.mono ?_;rintro _ st3 ⟨hs3,hf3,_,N,⟨yi,rfl,hyi,hyd⟩,hoN,hrY,hrN,hN3,hNd⟩;obtain⟨y,rfl,hoy,hry⟩:=zWt hoN hrY;obtain⟨ys,d,rfl,hO⟩:=xK4 hrN hyi hyd hoy hry;have hO0:=hO;obtain⟨q0,q1,q2,q3,q4,q5,q6,q7,q8,q9,q10,q11,rfl,hqr,k1,k2,k3,k4,k5⟩:=hO;have hov:=wWg gl _ d q0 q1 q2 q3 q4 q5 q6 q7 q8 q9 q10 q11 st3 hqr (k1.mono hN3) (k2.mono hN3) (k3.mono hN3) (k4.mono hN3) (k5.mono hN3);simp only[List.forall_mem_cons] at hqr;obtain⟨⟨w0,rfl,r0⟩,⟨w1,rfl,r1⟩,⟨w2,rfl,r2⟩,⟨w3,rfl,r3⟩,⟨w4,rfl,r4⟩,⟨w5,rfl,r5⟩,⟨w6,rfl,r6⟩,⟨w7,rfl,r7⟩,⟨w8,rfl,r8⟩,⟨w9,rfl,r9⟩,⟨w10,rfl,r10⟩,⟨w11,rfl,r11⟩,_⟩:=hqr;simp only[go_sem,zE,zA,zL,r0,r1,r2,r3,r4,r5,r6,r7,r8,r9,r10,r11];refine (hRT _).mono ?_;rintro _ st3 ⟨⟨u,rfl,hu⟩,rfl⟩;have hTk:=λst=>xJb gl _ _ (Nat.lt_succ_self _) u hu htb (by omega) st;obtain⟨rule',tl',xl',tr',xr',op',fn',ta',xa',tb',xb',v',un',tu',xu',n',ts',xs',rfl⟩:=yX4 hu;simp only[go_sem,zE,zA,zL,decide_true];refine (hTk _).mono ?_;rintro q st3 ⟨hq2,rfl⟩;have hSm:=yUi gl hf3 hN3 hoy (λst=>yKz gl _ _ _ (IsTr.aged hyi) hq2 (by omega) st);obtain⟨rule',tl',xl',tr',xr',op',fn',ta',xa',tb',xb',v',un',tu',xu',n',ts',xs',rfl⟩:=yX4 hq2;simp only[go_sem,zE,zA];refine hSm.mono ?_;rintro _ st3 ⟨rfl,rfl⟩;simp only[go_sem,zE,zA,zL];refine (hB _).mono ?_;rintro _ st3 ⟨rfl,rfl⟩;simp only[go_sem,zE,zA];refine (hRB _).mono ?_;rintro _ st3 ⟨rfl,rfl⟩;simp only[go_sem,zE,zA,zL,decide_true];refine hov.mono ?_;rintro _ st4 hov4;have hs4:subSt st1 st4:=λc o hc=>by
  rw[hov4.dom c λhD=>by rw[hNd c hD] at hc;cases hc];exact hs3 _ _ hc
 simp only[go_sem,zE,zA,zL];refine (hM _).mono ?_;rintro _ st4 ⟨rfl,rfl⟩;simp only[go_sem,zE,zA,zL];refine (ICall.sub hK hs4).mono ?_;rintro _ st5 ⟨rfl,rfl⟩;simp only[go_sem,zE];exact yQb (λc o hc=>hs1 _ _ hc) ⟨rfl,rfl⟩
set_option maxRecDepth 4000
theorem OK.sub {D:Nat->Prop}{N:ISt}:∀ {d s:Nat} {x:IV},s=3\/s=4->OK D d s N x->OK (λb=>D b/\∃cs o,N b=some (.box cs)/\cs[0]?=some (.raw (.int .u8 o))) d s N x
 | 0,_,_,_,h=>h
 | d+1,s,x,h34,h=>by
  rcases h with h|⟨g,n,c,cs,v,h1,h2,h3,h4,h5,h6,h7,h8,hq,h9⟩
  ·exact .inl h
  ·have h4':s=4:=h34.resolve_left (by rintro rfl;exact h8);subst h4';obtain⟨o,rfl⟩:=h8;exact .inr ⟨g,n,c,cs,_,h1,⟨h2,cs,o,h5,h7⟩,h3,h4,h5,h6,h7,⟨o,rfl⟩,hq,λi hi=>⟨(h9 i hi).1,λj y s' hy hn=>((h9 i hi).2 j y s' hy hn).sub (by rcases nx4 hn with⟨_,rfl⟩|⟨_,rfl⟩<;>simp)⟩⟩
def ON (D:Nat->Prop):Nat->ISt->IV->Prop
 | 0,_,x=>E0 x
 | d+1,st,x=>E0 x\/∃g n c cs,x=.raw (.slice (some ⟨g,0,none⟩) n c)/\n<=140737488355328/\¬ D g/\st g=some (.box cs)/\n*9<=cs.length /\
   ∀i,i<n->∃b w o m a f c' w' ts,(cs.drop (i*9)).take 9=[b,w,o,m,a,f,c',w',ts]/\(∀y∈[b,w,o,m,a,f,c',w',ts],rawO y)/\OK D d 3 st a/\OK D d 4 st f/\ON D d st ts
theorem ON.keep {D:Nat->Prop}{st st':ISt}(h:Ow D st st'):∀ {d:Nat} {x:IV},ON D d st x->ON D d st' x
 | 0,_,k=>k
 | d+1,x,k=>by
  rcases k with k|⟨g,n,c,cs,h1,h2,h3,h4,h5,h6⟩
  ·exact .inl k
  ·refine .inr ⟨g,n,c,cs,h1,h2,h3,by rw[h.dom g h3];exact h4,h5,λi hi=>?_⟩;obtain⟨b,w,o,m,a,f,c',w',ts,q1,q2,q3,q4,q5⟩:=h6 i hi;exact⟨b,w,o,m,a,f,c',w',ts,q1,q2,h.keep _ _ _ q3,h.keep _ _ _ q4,q5.keep h⟩
theorem ON.mono {D:Nat->Prop}{st st':ISt}(h:subSt st st'):∀ {d:Nat} {x:IV},ON D d st x->ON D d st' x
 | 0,_,k=>k
 | d+1,x,k=>by
  rcases k with k|⟨g,n,c,cs,h1,h2,h3,h4,h5,h6⟩
  ·exact .inl k
  ·refine .inr ⟨g,n,c,cs,h1,h2,h3,h _ _ h4,h5,λi hi=>?_⟩;obtain⟨b,w,o,m,a,f,c',w',ts,q1,q2,q3,q4,q5⟩:=h6 i hi;exact⟨b,w,o,m,a,f,c',w',ts,q1,q2,q3.mono h,q4.mono h,q5.mono h⟩
theorem ON.up {D:Nat->Prop}:∀ {d:Nat} {st:ISt} {x:IV},ON D d st x->ON D (d+1) st x
 | 0,_,_,h=>.inl h
 | d+1,st,x,h=>by
  rcases h with h|⟨g,n,c,cs,h1,h2,h3,h4,h5,h6⟩
  ·exact .inl h
  ·refine .inr ⟨g,n,c,cs,h1,h2,h3,h4,h5,λi hi=>?_⟩;obtain⟨b,w,o,m,a,f,c',w',ts,q1,q2,q3,q4,q5⟩:=h6 i hi;exact⟨b,w,o,m,a,f,c',w',ts,q1,q2,q3.up,q4.up,q5.up⟩
theorem ON.le {D:Nat->Prop}{d e:Nat}{st:ISt}{x:IV}(h:ON D d st x)(hde:d<=e):ON D e st x:=by
 induction hde with
 | refl=>exact h
 | step _ ih=>exact ih.up
theorem wKr (D:Nat->Prop):∀(d:Nat) (r0 r1 o m a f r6 r7 ts:IV) (st:ISt),(∀y∈[r0,r1,o,m,a,f,r6,r7,ts],rawO y)->OK D d 3 st a->OK D d 4 st f->ON D d st ts →
  ICall prog gl 39 [.agg [r0,r1,o,m,a,f,r6,r7,ts]] st (λ_ st'=>Ow D st st'):=by
 intro d
 induction d with
 | zero =>
  intro r0 r1 o m a f r6 r7 ts st hr ha hb ht;simp only[List.forall_mem_cons] at hr;obtain⟨⟨w0,rfl,k0⟩,⟨w1,rfl,k1⟩,⟨w2,rfl,k2⟩,⟨w3,rfl,k3⟩,⟨w4,rfl,k4⟩,⟨w5,rfl,k5⟩,⟨w6,rfl,k6⟩,⟨w7,rfl,k7⟩,⟨w8,rfl,k8⟩,_⟩:=hr;have h2:=yKe gl k2 k3 k4 (yKj _) k5 (yKj _) ha hb (λst h=>yJ0 gl D _ _ st h);rcases ht with he|⟨q,c,he⟩
  ·cases he;refine ICall.nilA (pre:=[.raw w0,.raw w1,.raw w2,.raw w3,.raw w4,.raw w5,.raw w6,.raw w7]) ?_;simp only[List.cons_append,List.nil_append];refine iI func39 ?_;simp only[go_sem,zE,zB,zA,zM,zS,zL,reduceCtorEq,fits,k0,k1,k2,k3,k4,k5,k6,k7,k8,yW1];refine h2.mono ?_;rintro _ st1 hov;simp only[go_sem,zE,zB,zA,zM,zS,zL,reduceCtorEq,fits];refine LoopC.ctr 0 (λk fr st' ds=>fr 1=.box [.raw w0,.raw w1,.raw w2,.raw w3,.raw w4,.raw w5,.raw w6,.raw w7,.sl ⟨true,.nil,0⟩ []]/\fr 2=.iv (.raw (.int .i64 0))/\Ow D st st'/\ds=[]) ?_ ?_ ?_
   ·simp only[go_sem,zE,zB,zA,zM,zS,zL,reduceCtorEq];exact hov
   ·intro k fr st1 _ hlt;omega
   ·rintro fr st1 _ ⟨f1,f2,hov3,rfl⟩;simp only[go_sem,zE,zB,zA,zM,zS,zL,reduceCtorEq,f1,f2,fits,List.length_nil,show decide ((0:Int)<((0:Nat):Int))=false from rfl];intros;exact yQ0 hov3
  ·cases he;refine iI func39 ?_;simp only[go_sem,zE,zB,zA,zM,zS,zL,reduceCtorEq,fits,k0,k1,k2,k3,k4,k5,k6,k7,k8,yW1];refine h2.mono ?_;rintro _ st1 hov;simp only[go_sem,zE,zB,zA,zM,zS,zL,reduceCtorEq,fits];refine LoopC.ctr 0 (λk fr st' ds=>fr 1=.box [.raw w0,.raw w1,.raw w2,.raw w3,.raw w4,.raw w5,.raw w6,.raw w7,.raw (.slice (some ⟨q,0,none⟩) 0 c)]/\fr 2=.iv (.raw (.int .i64 0))/\Ow D st st'/\ds=[]) ?_ ?_ ?_
   ·simp only[go_sem,zE,zB,zA,zM,zS,zL,reduceCtorEq];exact hov
   ·intro k fr st1 _ hlt;omega
   ·rintro fr st1 _ ⟨f1,f2,hov3,rfl⟩;simp only[go_sem,zE,zB,zA,zM,zS,zL,reduceCtorEq,f1,f2,fits,List.length_nil,show decide ((0:Int)<((0:Nat):Int))=false from rfl];intros;exact yQ0 hov3
 | succ d IH =>
  intro r0 r1 o m a f r6 r7 ts st hr ha hb ht;simp only[List.forall_mem_cons] at hr;obtain⟨⟨w0,rfl,k0⟩,⟨w1,rfl,k1⟩,⟨w2,rfl,k2⟩,⟨w3,rfl,k3⟩,⟨w4,rfl,k4⟩,⟨w5,rfl,k5⟩,⟨w6,rfl,k6⟩,⟨w7,rfl,k7⟩,⟨w8,rfl,k8⟩,_⟩:=hr;have h2:=yKe gl k2 k3 k4 (yKj _) k5 (yKj _) ha hb (λst h=>yJ0 gl D _ _ st h);rcases ht with ht|⟨g,n,c,cs,he,hn,hD,hg,hlen,hel⟩
  ·rcases ht with he|⟨q,c,he⟩
   ·cases he;refine ICall.nilA (pre:=[.raw w0,.raw w1,.raw w2,.raw w3,.raw w4,.raw w5,.raw w6,.raw w7]) ?_;simp only[List.cons_append,List.nil_append];refine iI func39 ?_;simp only[go_sem,zE,zB,zA,zM,zS,zL,reduceCtorEq,fits,k0,k1,k2,k3,k4,k5,k6,k7,k8,yW1];refine h2.mono ?_;rintro _ st1 hov;simp only[go_sem,zE,zB,zA,zM,zS,zL,reduceCtorEq,fits];refine LoopC.ctr 0 (λk fr st' ds=>fr 1=.box [.raw w0,.raw w1,.raw w2,.raw w3,.raw w4,.raw w5,.raw w6,.raw w7,.sl ⟨true,.nil,0⟩ []]/\fr 2=.iv (.raw (.int .i64 0))/\Ow D st st'/\ds=[]) ?_ ?_ ?_
    ·simp only[go_sem,zE,zB,zA,zM,zS,zL,reduceCtorEq];exact hov
    ·intro k fr st1 _ hlt;omega
    ·rintro fr st1 _ ⟨f1,f2,hov3,rfl⟩;simp only[go_sem,zE,zB,zA,zM,zS,zL,reduceCtorEq,f1,f2,fits,List.length_nil,show decide ((0:Int)<((0:Nat):Int))=false from rfl];intros;exact yQ0 hov3
   ·cases he;refine iI func39 ?_;simp only[go_sem,zE,zB,zA,zM,zS,zL,reduceCtorEq,fits,k0,k1,k2,k3,k4,k5,k6,k7,k8,yW1];refine h2.mono ?_;rintro _ st1 hov;simp only[go_sem,zE,zB,zA,zM,zS,zL,reduceCtorEq,fits];refine LoopC.ctr 0 (λk fr st' ds=>fr 1=.box [.raw w0,.raw w1,.raw w2,.raw w3,.raw w4,.raw w5,.raw w6,.raw w7,.raw (.slice (some ⟨q,0,none⟩) 0 c)]/\fr 2=.iv (.raw (.int .i64 0))/\Ow D st st'/\ds=[]) ?_ ?_ ?_
    ·simp only[go_sem,zE,zB,zA,zM,zS,zL,reduceCtorEq];exact hov
    ·intro k fr st1 _ hlt;omega
    ·rintro fr st1 _ ⟨f1,f2,hov3,rfl⟩;simp only[go_sem,zE,zB,zA,zM,zS,zL,reduceCtorEq,f1,f2,fits,List.length_nil,show decide ((0:Int)<((0:Nat):Int))=false from rfl];intros;exact yQ0 hov3
  cases he;have hw:ON D (d+1) st (.raw (.slice (some ⟨g,0,none⟩) n c)):=.inr ⟨g,n,c,cs,rfl,hn,hD,hg,hlen,hel⟩;clear hg hlen hel;refine iI func39 ?_;simp only[go_sem,zE,zB,zA,zM,zS,zL,reduceCtorEq,fits,k0,k1,k2,k3,k4,k5,k6,k7,k8,yW1];refine h2.mono ?_;rintro _ st1 hov;simp only[go_sem,zE,zB,zA,zM,zS,zL,reduceCtorEq,fits];refine LoopC.ctr n (λk fr st' ds=>fr 1=.box [.raw w0,.raw w1,.raw w2,.raw w3,.raw w4,.raw w5,.raw w6,.raw w7,.raw (.slice (some ⟨g,0,none⟩) n c)]/\fr 2=.iv (.raw (.int .i64 k))/\Ow D st st'/\ds=[]) ?_ ?_ ?_
  ·simp only[go_sem,zE,zB,zA,zM,zS,zL,reduceCtorEq];exact⟨rfl,hov⟩
  ·rintro k fr st3 _ hlt ⟨f1,f2,hov3,rfl⟩;rcases hw.keep hov3 with (he|⟨_,_,he⟩)|⟨g',n1,c1,cs1,he,_,_,hg1,hl1,hel⟩
   ·cases he
   ·cases he;omega
   cases he;obtain⟨q0,q1,q2,q3,q4,q5,q6,q7,q8,hq,hqr,m1,m2,m3⟩:=hel k hlt;have hle:k*9+9<=cs1.length:=by
    have:=Nat.mul_le_mul_right 9 (show k+1<=n by omega);omega
   have hcall:=IH q0 q1 q2 q3 q4 q5 q6 q7 q8 st3 hqr m1 m2 m3;simp only[go_sem,zE,zB,zA,zM,zS,zL,reduceCtorEq,f1,f2,lt_i hlt,iNn,hlt,hg1,hle,hq,fits];intros;refine hcall.mono ?_;rintro _ st4 hov4;simp only[go_sem,zE,zB,zA,zM,zS,zL,reduceCtorEq,f1,f2,fits,yQa hlt (show n<=281474976710656 by omega)];exact hov3.trans hov4
  ·rintro fr st3 _ ⟨f1,f2,hov3,rfl⟩;simp only[go_sem,zE,zB,zA,zM,zS,zL,reduceCtorEq,f1,f2,fits,yQk (nLi _)];intros;exact yQ0 hov3
def NdO (D:Nat->Prop)(d:Nat)(N:ISt)(ys:List IV):Prop:=∃b w o m a f c w' ts,ys=[b,w,o,m,a,f,c,w',ts]/\(∀y∈[b,w,o,m,a,f,c,w',ts],rawO y)/\OK D d 3 N a/\OK D d 4 N f/\ON D d N ts
theorem NdO.le {D:Nat->Prop}{d e:Nat}{N:ISt}{ys:List IV}(h:NdO D d N ys)(hde:d<=e):NdO D e N ys:=by
 obtain⟨b,w,o,m,a,f,c,w',ts,q1,q2,q3,q4,q5⟩:=h;exact⟨b,w,o,m,a,f,c,w',ts,q1,q2,q3.le hde,q4.le hde,q5.le hde⟩
def DN (N:ISt)(b:Nat):Prop:=N b≠none/\∃cs o,N b=some (.box cs)/\cs[0]?=some (.raw (.int .u8 o))
def ONs (N:ISt)(us:List Nd):Prop:=∀(y:IV) (t:Tag) (xs:List IV),(∃v,y=.raw v)->OI N y (.sl t xs)->okEs t 9->IsNds us xs->dfr (.sl t xs)->∃d,ON (DN N) d N y
theorem wWq {N:ISt}(hraw:zQ4 N){m:Mk}{c:Bool}{w:Int}{sub:List Nd}{x:IV}(hx:IsNd (.mk m c w sub) x)(hd:dfr x){ys:List IV}(hl:ys.length=9)(hc:∀(j:Nat)(r c:IV),ys[j]?=some r->x.cells[j]?=some c->OI N r c)
  (hs:∀(r:IV) (t:Tag) (xs:List IV),r∈ys->OI N r (.sl t xs)->∃v,r=.raw v) (IH:ONs N sub):∃d,NdO (DN N) d N ys:=by
 obtain⟨op,fn,ta,xa,tb,xb,ts,xs,rfl,hy,e3,i3⟩:=hx.mk;obtain⟨is,mw,⟨o',n',us',sub'⟩⟩:=m;obtain⟨_,_,_,_,he,_,ea,ia,eb,ib⟩:=hy.mk;cases he;rw[dfr] at hd;obtain⟨_,_,_,_,d5,d6,_,_,d9,_⟩:=hd.1
 match ys,hl with
 | [q0,q1,q2,q3,q4,q5,q6,q7,q8],_ =>
  have o0:=yXb (hc 0 _ _ rfl rfl);have o1:=yXb (hc 1 _ _ rfl rfl);have o2:=yXb (hc 2 _ _ rfl rfl);have o3:=yXb (hc 3 _ _ rfl rfl);have o4:=hc 4 _ _ rfl rfl;have o5:=hc 5 _ _ rfl rfl;have o6:=yXb (hc 6 _ _ rfl rfl);have o7:=yXb (hc 7 _ _ rfl rfl);have o8:=hc 8 _ _ rfl rfl;have w4:=hs q4 _ _ (by simp) o4;have w5:=hs q5 _ _ (by simp) o5;have w8:=hs q8 _ _ (by simp) o8;obtain⟨a3,k3⟩:=zWx (D:=DN N) us' _ _ _ w4 o4 ea ia d5;obtain⟨a4,k4⟩:=yUb hraw _ sub' (Nat.lt_succ_self _) _ _ _ w5 o5 eb ib d6;obtain⟨a5,k5⟩:=IH _ _ _ w8 o8 e3 i3 d9;refine⟨a3+a4+a5,q0,q1,q2,q3,q4,q5,q6,q7,q8,rfl,?_,k3.le (by omega),(k4.sub (.inr rfl)).le (by omega),k5.le (by omega)⟩;simp only[List.forall_mem_cons];exact⟨⟨_,o0,by rw[o0];rfl⟩,⟨_,o1,by rw[o1];rfl⟩,⟨_,o2,by rw[o2];rfl⟩,⟨_,o3,by rw[o3];rfl⟩,slO o4 w4,slO o5 w5,⟨_,o6,by rw[o6];rfl⟩,⟨_,o7,by rw[o7];rfl⟩,slO o8 w8,by simp⟩
theorem xK9 {N:ISt}(hraw:zQ4 N):∀(k:Nat) (us:List Nd),SizeOf.sizeOf us<k->ONs N us
 | 0,_,h=>by omega
 | k+1,us,hk=>by
  rintro y t xs ⟨v,rfl⟩ ho hes hxs hd;have hxlen:=hxs.len;cases ho with
  | nil _ h=>exact⟨0,.inl rfl⟩
  | sl g cap _ _ cs hcap hlen hcl hs hst hroom h =>
   have h3:=zZw hes hcap;rw[h3] at hroom;have hs9:∀x∈xs,x.cells.length=9:=λx hx=>by rw[hs x hx,h3]
   by_cases hpos:xs.length=0
   ·exact⟨0,.inr ⟨g,cap,by rw[hpos]⟩⟩
   rw[dfr] at hd;have hcc:=Nat.mul_le_mul_right 9 hcl;have hel:∀i,i<xs.length->∃d,NdO (DN N) d N ((cs.drop (i*9)).take 9):=λi hi=>by
    obtain⟨⟨m,c,w,sub⟩,ha⟩:=yQ3 (l:=us) (k:=i) (by omega);obtain⟨z,hkz,hz⟩:=hxs.get ha;have hzl:=hs9 z (lMg hkz);have hle:i*9+9<=cs.length:=by
     have:=Nat.mul_le_mul_right 9 (show i+1<=xs.length by omega);omega
    refine wWq hraw hz (yJy hd.2.1 (lMg hkz)) (by rw[List.length_take,List.length_drop];omega) (λj r c h1 h2=>?_) (λr t' xs' hr ho=>yGv (hraw _ _ hst r (List.mem_of_mem_drop (List.mem_of_mem_take hr))) ho) (xK9 hraw k sub (by have:=lSm (lMg ha);simp at this;omega));have hj:j<9:=by have:=(lGs h2).1;omega
    rw[List.getElem?_take,if_pos hj,List.getElem?_drop] at h1;exact h _ r c h1 (by rw[Nat.mul_comm i 9,yKu hs9 hkz hj];exact h2)
   obtain⟨d,hd'⟩:=yUu (P:=λd i=>NdO (DN N) d N ((cs.drop (i*9)).take 9)) (λd i h=>h.le (Nat.le_succ d)) _ hel;have hnD:¬ DN N g:=by
    rintro⟨_,cs',o,hg',ho⟩;rw[hst] at hg';cases hg';obtain⟨⟨m,c,w,sub⟩,ha⟩:=yQ3 (l:=us) (k:=0) (by omega);obtain⟨z,hkz,hz⟩:=hxs.get ha;obtain⟨op,fn,ta,xa,tb,xb,ts',xs',rfl,_⟩:=hz.mk;have o0:=yXb (h _ _ _ ho (yKu hs9 hkz (show 0<9 by omega)));cases o0
   refine⟨d+1,.inr ⟨g,xs.length,cap,cs,rfl,hlen,hnD,hst,by omega,λi hi=>?_⟩⟩;obtain⟨b,w,o,m,a,f,c,w',ts,q⟩:=hd' i hi;exact⟨b,w,o,m,a,f,c,w',ts,q⟩
theorem wJi {N:ISt}(hraw:zQ4 N){n:Nd}{y x:IV}(hx:IsNd n x)(hd:dfr x)(ho:OI N y x)(hy:rawY y):∃ys d,y=.agg ys/\NdO (DN N) d N ys:=by
 obtain⟨m,c,w,sub⟩:=n;have hx0:=hx;obtain⟨_,_,_,_,_,_,_,_,_,_,_,_,rfl⟩:=yXq hx;cases ho with
 | refl=>simp only[rawY,zKg] at hy;exact hy.2.2.2.2.1.elim
 | agg rs _ hl h =>
  simp only[rawY] at hy;obtain⟨d,hd⟩:=wWq hraw hx0 hd hl (λj r c h1 h2=>h j r c h1 h2) (λr t xs hr ho=>by
   have hyr:=yYh hy hr;cases ho with
   | refl=>simp only[rawY] at hyr
   | nil=>exact⟨_,rfl⟩
   | sl=>exact⟨_,rfl⟩) (xK9 hraw _ sub (Nat.lt_succ_self _))
  exact⟨rs,d,rfl,hd⟩
end Go.Proofs.Tryz
namespace Go.Proofs.Tryz
open Go Go.Iv
abbrev noN:ByteArray:=⟨#[]⟩
abbrev imF (a b:Fm):Fm:=.mk 6 noN [] [a,b]
inductive PF:Fm->Prop
 | atom (n:ByteArray):PF (.mk 1 n [] [])
 | fls:PF (.mk 2 noN [] [])
 | neg {a:Fm} (h:PF a):PF (.mk 3 noN [] [a])
 | bin {o:Nat} {a b:Fm} (h4:4<=o) (h7:o<=7) (ha:PF a) (hb:PF b):PF (.mk o noN [] [a,b])
theorem vJ9 {ca:Nat}(hc:ca≠3)(f:Fm):f.ok=true->opsB ca f=true->PF f:=by
 refine wY6 (p:=λf=>f.ok=true->opsB ca f=true->PF f) (λo n us sub ih h1 h2=>?_) f;simp only[Fm.ok,bAt] at h1;obtain⟨⟨hrow,_⟩,hok⟩:=h1;simp only[opsB,bAt,Bool.or_eq_true,dTe,if_neg hc] at h2;obtain⟨⟨⟨ho1,ho7⟩,hus⟩,hops⟩:=h2;have hus:us=[]:=List.isEmpty_iff.1 (hus.resolve_left hc);subst hus;have hsub:∀a∈sub,PF a:=by
  have key:∀l:List Fm,(∀a∈l,a∈sub)->yKc l=true->yJn ca l=true->∀a∈l,PF a:=λl=>by
   induction l with
   | nil=>intro _ _ _ a ha;cases ha
   | cons b l ihl =>
    intro hm h1 h2 a ha;simp only[yKc,yJn,bAt] at h1 h2;grind
  grind
 have ho:o=1\/o=2\/o=3\/o=4\/o=5\/o=6\/o=7:=by omega
 rcases ho with rfl|rfl|rfl|rfl|rfl|rfl|rfl<;>simp only[yUc,bAt,dTe] at hrow
 ·obtain rfl:sub=[]:=List.eq_nil_of_length_eq_zero hrow.2;exact .atom n
 ·obtain rfl:sub=[]:=List.eq_nil_of_length_eq_zero hrow.2;rw[hrow.1.1];exact .fls
 ·match sub,hrow.2 with
  | [a],_=>rw[hrow.1.1];exact .neg (hsub a (.head _))
 all_goals
  match sub,hrow.2 with
  | [a,b],_=>rw[hrow.1.1];exact .bin (by omega) (by omega) (hsub a (.head _)) (hsub b (.tail _ (.head _)))
theorem vJ8 {ca:Nat}(hc:ca≠3){f:Fm}(h:fmB ca f=true):PF f:=by
 unfold fmB Fm.right at h;simp only[bAt] at h;exact vJ9 hc f h.1.1.1 h.2
theorem vQ1 {ca:Nat}{n:ByteArray}{us:List Tm}{a:Fm}(h:fmB ca (.mk 3 n us [a])=true):fmB ca a=true:=by
 unfold fmB Fm.right at *;simp only[bAt,dTe,Fm.ok,yKc,opsB,yJn,Fm.size,yQ7,Fm.deep,yZe] at *;grind
theorem vQ3 {ca o:Nat}(ho:o≠3/\4<=o/\o<=7){n:ByteArray}{us:List Tm}{a b:Fm}(h:fmB ca (.mk o n us [a,b])=true):fmB ca a=true/\fmB ca b=true/\fmB ca (imF a b)=true/\fmB ca (imF b a)=true:=by
 have key:∀k,yUc k noN 0 2=true↔k=4\/k=5\/k=6\/k=7\/k=14:=λk=>by
  unfold yUc;grind
 unfold fmB Fm.right at *;simp only[bAt,dTe,Fm.ok,yKc,opsB,yJn,Fm.size,yQ7,Fm.deep,yZe,xZn,yQy,yWu,List.length_cons,List.length_nil,Nat.zero_add,Nat.reduceAdd,List.isEmpty_nil,Bool.or_true] at *;have h6:yUc 6 noN 0 2=true:=(key 6).2 (by omega);obtain⟨⟨⟨⟨⟨_,_⟩,k1,k2,_⟩,k3⟩,k4⟩,⟨⟨k5,k6⟩,k7⟩,k8,k9,_⟩:=h;have hle:6<=(if ca=3 then 9 else 7):=by split<;>omega
 grind
theorem vQe {ca:Nat}(_:ca≠3)(e:List ByteArray)(f g:Fm)(_:opsB ca f=true)(h:dbF e f=dbF e g):f=g:=h
end Go.Proofs.Tryz
namespace Go.Proofs.Tryz
open Go Go.Iv
set_option maxRecDepth 4000
variable (gl:Nat->Option IV)
theorem wKx {a b:Fm}(h:yJf a b=true):a.op=b.op:=by
 unfold yJf at h;simp only[bAt] at h;have h:a=b:=yZ2.1 h.2;rw[h]
theorem zJu (a b:Fm):eqF a b=yJf b a:=by
 unfold eqF;rw[Bool.eq_iff_iff,bAt,dTe];have hs:∀x y:Fm,yJf x y=true->yJf y x=true:=λx y h=>by
  unfold yJf at h ⊢;simp only[bAt] at h ⊢;exact⟨⟨h.1.2,h.1.1⟩,yZ2.2 (yZ2.1 h.2).symm⟩
 exact⟨λh=>hs _ _ h.2,λh=>⟨(wKx h).symm,hs _ _ h⟩⟩
theorem vJ5 (t:Tag)(xs:List IV)(t':Tag)(ys:List IV)(st:ISt):ICall prog gl 191 [.sl t xs,.sl t' ys] st (λr st'=>r=.agg [.sl t xs,.sl t' ys]/\st'=st):=by
 refine iI func191 ?_;simp only[go_sem,zE,zA,zL,reduceCtorEq,fits];exact yQ0 ⟨rfl,rfl⟩
def wV4 (ca rule:Nat)(x:IV):Prop:=match rowS ca rule with
 | some r=>x=.tup [.raw (.int .u8 r.op),.raw (.bool r.left),.raw (.bool r.right),.raw (.bool true)]
 | none=>∃(o:Int) (a b:Bool),x=.tup [.raw (.int .u8 o),.raw (.bool a),.raw (.bool b),.raw (.bool false)]
theorem xWw (r:List Fm):xX8 r=r.all (yJf ((r[0]?).getD fm0)):=by
 cases r with
 | nil=>rfl
 | cons a l =>
  show ((a::l).all λf=>eqF f a)=(a::l).all (yJf a);congr 1;funext f;exact zJu f a
def qV (ca:Nat)(hd f:Fm):Prop:=fmB ca f=true/\(ca=2->yJf hd f=true)
theorem yVw {ca:Nat}{s:Sq}:yXs ca s=true↔yXo ca=true/\s.l.length<=64/\s.r.length<=64/\(∀f∈s.l,fmB ca f=true)/\∀f∈s.r,qV ca ((s.r[0]?).getD fm0) f:=by
 unfold yXs qV;rw[xWw];simp only[bAt,Bool.or_eq_true,dTe,List.all_eq_true];constructor
 ·rintro⟨⟨⟨⟨⟨h1,h2⟩,h3⟩,h4⟩,h5⟩,h6⟩;exact⟨h1,h2,h3,h4,λf hf=>⟨h5 f hf,λhc=>h6.resolve_left (λh=>h hc) f hf⟩⟩
 ·rintro⟨h1,h2,h3,h4,h5⟩;refine⟨⟨⟨⟨⟨h1,h2⟩,h3⟩,h4⟩,λf hf=>(h5 f hf).1⟩,?_⟩;by_cases hc:ca=2
  ·exact .inr λf hf=>(h5 f hf).2 hc
  ·exact .inl hc
theorem yG0 {ca:Nat}{s:Sq}(h:¬ (yXo ca=true/\s.l.length<=64/\s.r.length<=64/\(∀f∈s.l,fmB ca f=true)/\∀f∈s.r,qV ca ((s.r[0]?).getD fm0) f)):yXs ca s=false:=by
 cases hv:yXs ca s
 ·rfl
 ·exact absurd (yVw.1 hv) h
abbrev nlSl:IV:=.sl ⟨true,.nil,0⟩ []
theorem wXf (tx ty:Tag)(st:ISt):ICall prog gl 308 [.sl tx [],.sl ty [],nlSl,nlSl] st (λr st'=>r=.raw (.bool true)/\st'=st):=by
 refine iI func308 ?_;simp only[go_sem,zE,zB,zA,zM,zS,zL,reduceCtorEq,fits,List.length_nil,decide_true];intros;refine LoopC.ctr 0 (λk fr st' ds=>fr 0=.iv (.sl tx [])/\fr 9=.iv (.raw (.int .i64 0))/\st'=st/\ds=[]) ?_ ?_ ?_
 ·simp only[go_sem,zE,zB,zA,zM,zS,zL,reduceCtorEq]
 ·intro k _ _ _ h;omega
 ·rintro fr _ _ ⟨f0,f9,rfl,rfl⟩;simp only[go_sem,zE,zB,zA,zM,zS,zL,reduceCtorEq,f0,f9,fits,List.length_nil,show decide ((0:Int)<((0:Nat):Int))=false from rfl];intros;exact yQ0 ⟨rfl,rfl⟩
theorem vQq (op:Nat)(ho:op<=7)(n:ByteArray)(t t':Tag)(xs ys:List IV)(st:ISt) :
  ICall prog gl 309 [.agg [.raw (.int .u8 op),.raw (.string n),.sl t xs,.sl t' ys]] st (λx st'=>x=.raw (.bool false)/\st'=st):=by
 refine iI func309 ?_;simp only[go_sem,zE,zB,zA,zM,zS,zL,reduceCtorEq,show decide ((op:Int)=8)=false from dEf (by omega),show decide ((op:Int)=9)=false from dEf (by omega)];exact yQ0 ⟨rfl,rfl⟩
def WSm (a:Fm):Prop:=∀(b:Fm) (x y:IV) (_:IsFm a x) (_:IsFm b y) (_:a.size<=1099511627776) (_:b.size<=1099511627776) (st:ISt),ICall prog gl 272 [x,y,nlSl,nlSl] st (λr st'=>r=.raw (.bool (eqB a b))/\st'=st)
theorem xVm (op:Nat)(n:ByteArray)(us:List Tm)(sub:List Fm)(IH:∀a∈sub,WSm gl a):WSm gl (.mk op n us sub):=by
 intro b x y hx hy hsa hsb st;obtain⟨op',n',us',sub'⟩:=b;obtain⟨ta,xa,tb,xb,rfl,ho,hta,hxa,htb,hxb⟩:=hx.mk;obtain⟨tc,xc,td,xd,rfl,ho',htc,hxc,htd,hxd⟩:=hy.mk;obtain⟨rfl,rfl⟩:=hxa.z;obtain⟨rfl,rfl⟩:=hxc.z;simp only[Fm.size,yQy] at hsa hsb;have hl2:=yQj sub;have hne:¬ (op=op'/\n=n'/\sub=sub')->eqB (Fm.mk op n [] sub) (.mk op' n' [] sub')=false:=λh=>yZf.2 λhe=>by
  injection he with h1 h2 _ h4;exact h ⟨h1,h2,h4⟩
 refine ICall.intro (c:=cf prog gl [] [(4,[0,1,3,4,5,2,6,7]),(5,[0,1,3,4,5,2,6,7])]) func272 rfl (by show _<=76;simp) (by kernel_rfl) ?_;by_cases hop:op=op'
 case neg =>
  simp only[go_sem,zE,zB,zA,zM,zS,zL,reduceCtorEq,fits,show decide ((op:Int)=(op':Int))=false from dEf (by omega)];exact yQ0 ⟨by rw[hne λh=>hop h.1],rfl⟩
 subst hop;by_cases hlen:sub.length=sub'.length
 case neg =>
  simp only[go_sem,zE,zB,zA,zM,zS,zL,reduceCtorEq,fits,decide_true,hxb.len,hxd.len,show decide ((sub.length:Int)=(sub'.length:Int))=false from dEf (by omega)];intros;exact yQ0 ⟨by rw[hne λh=>hlen (by rw[h.2.2])],rfl⟩
 simp only[go_sem,zE,zB,zA,zM,zS,zL,reduceCtorEq,fits,decide_true,hxb.len,hxd.len,show decide ((sub.length:Int)=(sub'.length:Int))=true from dEt (by omega)];intros;refine (wXf gl ta tc _).mono ?_;rintro _ st ⟨rfl,rfl⟩;simp only[go_sem,zE,zB,zA,zM,zS,zL,reduceCtorEq,fits];refine (vQq gl op ho n _ _ _ _ _).mono ?_;rintro _ st ⟨rfl,rfl⟩;by_cases hn:n=n'
 case neg =>
  simp only[go_sem,zE,zB,zA,zM,zS,zL,reduceCtorEq,fits,dEf hn];exact yQ0 ⟨by rw[hne λh=>hn h.2.1],rfl⟩
 subst hn;simp only[go_sem,zE,zB,zA,zM,zS,zL,reduceCtorEq,fits,decide_true];refine LoopC.ctr sub.length (λk fr st' ds=>sub.take k=sub'.take k/\fr 2=.iv nlSl/\fr 3=.iv nlSl/\fr 4=.box [.raw (.int .u8 op),.raw (.string n),.sl ta [],.sl tb xb] /\
  fr 5=.box [.raw (.int .u8 op),.raw (.string n),.sl tc [],.sl td xd]/\fr 9=.iv (.raw (.int .i64 k))/\st'=st/\ds=[]) ?_ ?_ ?_
 ·simp only[go_sem,zE,zB,zA,zM,zS,zL,reduceCtorEq];rfl
 ·rintro k fr stk _ hlt ⟨heq,f2,f3,f4,f5,f9,rfl,rfl⟩;obtain⟨a,ha⟩:=yQ3 hlt;obtain⟨b,hb⟩:=yQ3 (show k<sub'.length by omega);obtain⟨y,hky,hy⟩:=hxb.get ha;obtain⟨z,hkz,hz⟩:=hxd.get hb;have hma:=lMg ha;have hcall:=λst=>IH a hma b y z hy hz (by have:=(yZ5 ha).2;omega) (by have:=(yZ5 hb).2;omega) st;obtain⟨o8,n8,t8,x8,t9,x9,rfl⟩:=hy.agg;obtain⟨o6,n6,t6,x6,t7,x7,rfl⟩:=hz.agg;simp only[go_sem,zE,zB,zA,zM,zS,zL,reduceCtorEq,f2,f3,f4,f5,f9,hxb.len,lt_i hlt,yQ2 htb,yQ2 htd,iNn,hky,hkz,fits];intros;refine (hcall _).mono ?_;rintro _ stk ⟨rfl,rfl⟩;cases he:eqB a b
  ·simp only[go_sem,zE,zB,zA,zM,zS,zL,reduceCtorEq,f2,f3,f4,f5,f9];exact yQ0 ⟨by rw[hne λh=>by
    rw[h.2.2,hb] at ha;cases ha;rw[yZ2.2 rfl] at he;cases he],rfl⟩
  ·simp only[go_sem,zE,zB,zA,zM,zS,zL,reduceCtorEq,f2,f3,f4,f5,f9,yQa hlt (show sub.length<=281474976710656 by omega)];rw[yQ8 ha,yQ8 hb,heq,yZ2.1 he]
 ·rintro fr stk _ ⟨heq,f2,f3,f4,f5,f9,rfl,rfl⟩;rw[lTl,hlen,lTl] at heq;simp only[go_sem,zE,zB,zA,zM,zS,zL,reduceCtorEq,f4,f9,hxb.len,yQk (nLi _),fits];intros;subst heq;exact yQ0 ⟨by rw[yZ2.2 rfl],rfl⟩
theorem zG1:∀(k:Nat)(f:Fm),SizeOf.sizeOf f<k->WSm gl f
 | 0,f,h=>by omega
 | k+1,.mk o n us sub,h=>xVm gl o n us sub (λa ha=>zG1 k a (by
   have:=lSm ha;simp only[Fm.mk.sizeOf_spec] at h;omega))
theorem xJ0 (f g:Fm)(x y:IV)(hx:IsFm f x)(hy:IsFm g y)(hs:f.size<=1000000)(hs':g.size<=1000000)(st:ISt) :
  ICall prog gl 238 [x,y] st (λr st'=>r=.raw (.bool (yJf f g))/\st'=st):=by
 have h1:=λst=>zZr gl f x hx (by omega) st;have h2:=λst=>zZr gl g y hy (by omega) st;have h3:=λst=>zG1 gl _ f (Nat.lt_succ_self _) g x y hx hy (by omega) (by omega) st;obtain⟨o1,n1,t1,x1,t2,x2,rfl⟩:=hx.agg;obtain⟨o3,n3,t3,x3,t4,x4,rfl⟩:=hy.agg;refine iI func238 ?_;simp only[go_sem,zE,zB,zA,zM,zS,zL,reduceCtorEq,fits];refine (h1 _).mono ?_;rintro _ st ⟨rfl,rfl⟩;cases hr:f.right
 ·simp only[go_sem,zE,zB,zA,zM,zS,zL,reduceCtorEq,fits];exact yQ0 ⟨by simp[yJf,hr],rfl⟩
 simp only[go_sem,zE,zB,zA,zM,zS,zL,reduceCtorEq,fits];refine (h2 _).mono ?_;rintro _ st ⟨rfl,rfl⟩;cases hr':g.right
 ·simp only[go_sem,zE,zB,zA,zM,zS,zL,reduceCtorEq,fits];exact yQ0 ⟨by simp[yJf,hr'],rfl⟩
 simp only[go_sem,zE,zB,zA,zM,zS,zL,reduceCtorEq,fits];refine (h3 _).mono ?_;rintro _ st ⟨rfl,rfl⟩;simp only[go_sem,zE,zB,zA,zM,zS,zL,reduceCtorEq,fits];exact yQ0 ⟨by simp[yJf,hr,hr',dbF],rfl⟩
theorem zXg {ca:Nat}(hc:ca≠3)(l:List Fm)(tg:Tag)(xs:List IV)(htg:okEs tg 4)(hxs:IsFms l xs)(f:Fm)(y:IV)(hy:IsFm f y)(hl:∀a∈l,fmB ca a=true)(hf:f.size<=1000000)(hlen:l.length<=1099511627776)(st:ISt) :
  ICall prog gl 188 [.sl tg xs,y] st (λr st'=>r=.raw (.bool (hasF l f))/\st'=st):=by
 have hA:=λg z hz (hg:fmB ca g=true) st=>xJ0 gl g f z y hz hy (by have:=(yXi.1 hg).2.1;omega) hf st;obtain⟨o9,n9,t9,x9,t8,x8,rfl⟩:=hy.agg;refine iI func188 ?_;simp only[go_sem,zE,zB,zA,zM,zS,zL,reduceCtorEq,fits];refine LoopC.ctr l.length (λk fr st' ds=>hasF (l.take k) f=false/\fr 0=.iv (.sl tg xs)/\fr 3=.box [.raw (.int .u8 o9),.raw (.string n9),.sl t9 x9,.sl t8 x8]/\fr 5=.iv (.raw (.int .i64 k))/\st'=st/\ds=[]) ?_ ?_ ?_
 ·simp only[go_sem,zE,zB,zA,zM,zS,zL,reduceCtorEq];exact⟨rfl,rfl⟩
 ·rintro k fr st1 _ hlt ⟨hk,f0,f3,f5,rfl,rfl⟩;obtain⟨a,ha⟩:=yQ3 hlt;have ham:=lMg ha;obtain⟨z,hkz,hzz⟩:=hxs.get ha;have hcall:=λst=>hA a z hzz (hl a ham) st;obtain⟨o5,n5,t5,x5,t6,x6,rfl⟩:=hzz.agg;simp only[go_sem,zE,zB,zA,zM,zS,zL,reduceCtorEq,f0,f3,f5,hxs.len,lt_i hlt,yQ2 htg,iNn,hkz,fits];intro _;refine (hcall _).mono ?_;rintro _ st2 ⟨rfl,rfl⟩;rw[<- zJu];cases hra:eqF f a
  ·simp only[go_sem,zE,zB,zA,zM,zS,zL,reduceCtorEq,f0,f3,f5,fits,yQa hlt (show l.length<=281474976710656 by omega)];unfold hasF at hk ⊢;rw[yQ8 ha,List.any_append,hk];simp[hra]
  ·simp only[go_sem,zE,zB,zA,zM,zS,zL,reduceCtorEq,f0,f3,f5,fits];exact yQ0 ⟨by rw[yYq.2 ⟨a,ham,hra⟩],rfl⟩
 ·rintro fr st1 _ ⟨hk,f0,f3,f5,rfl,rfl⟩;rw[lTl] at hk;simp only[go_sem,zE,zB,zA,zM,zS,zL,reduceCtorEq,f0,f3,f5,hxs.len,yQk (nLi _)];intro _;exact yQ0 ⟨by rw[hk],rfl⟩
theorem vXb {ca:Nat}(hc:ca≠3)(l a b:List Fm)(tl ta tb:Tag)(xl xa xb:List IV)(e1:okEs tl 4)(i1:IsFms l xl)(e2:okEs ta 4)(i2:IsFms a xa)(e3:okEs tb 4)(i3:IsFms b xb)(hl:fitL l)(ha:∀f∈a,fmB ca f=true)(hb:∀f∈b,fmB ca f=true)
  (hlen:l.length<=1099511627776/\a.length<=1099511627776/\b.length<=1099511627776) (st:ISt) :
  ICall prog gl 234 [.sl tl xl,.sl ta xa,.sl tb xb] st (λr st'=>r=.raw (.bool (allF l (a++b)))/\st'=st):=by
 have hHa:=λf y hy hf st=>zXg gl hc a ta xa e2 i2 f y hy ha hf hlen.2.1 st;have hHb:=λf y hy hf st=>zXg gl hc b tb xb e3 i3 f y hy hb hf hlen.2.2 st;have happ:∀f,hasF (a++b) f=(hasF a f || hasF b f):=λf=>by unfold hasF;rw[List.any_append]
 refine iI func234 ?_;simp only[go_sem];refine LoopC.ctr l.length (λk fr st' ds=>allF (l.take k) (a++b)=true/\fr 0=.iv (.sl tl xl)/\fr 1=.iv (.sl ta xa)/\fr 2=.iv (.sl tb xb)/\fr 7=.iv (.raw (.int .i64 k))/\st'=st/\ds=[]) ?_ ?_ ?_
 ·simp only[go_sem,zE,reduceCtorEq];exact⟨rfl,rfl⟩
 ·rintro k fr st1 _ hlt ⟨hk,f0,f1,f2,f7,rfl,rfl⟩;obtain⟨q,hq⟩:=yQ3 hlt;have hqm:=lMg hq;obtain⟨z,hkz,hzz⟩:=i1.get hq;have hca:=λst=>hHa q z hzz (hl q hqm) st;have hcb:=λst=>hHb q z hzz (hl q hqm) st;obtain⟨o5,n5,t5,x5,t6,x6,rfl⟩:=hzz.agg;have hyes:(hasF a q || hasF b q)=true->allF (l.take (k+1)) (a++b)=true:=λh=>by
   rw[<- happ] at h;unfold allF at hk ⊢;rw[yQ8 hq,List.all_append,hk];simp[h]
  simp only[go_sem,zE,zB,zA,reduceCtorEq,f0,f1,f7,i1.len,lt_i hlt,yQ2 e1,iNn,hkz,fits];intro _;refine (hca _).mono ?_;rintro _ st2 ⟨rfl,rfl⟩;cases hra:hasF a q
  ·simp only[go_sem,zE,zB,zA,reduceCtorEq,f0,f2,f7,yQ2 e1,iNn,hkz,fits];intros;refine (hcb _).mono ?_;rintro _ st2 ⟨rfl,rfl⟩;cases hrb:hasF b q
   ·have hno:allF l (a++b)=false:=by
     cases hh:allF l (a++b)
     ·rfl
     ·have:=xQl.1 hh q hqm;rw[happ,hra,hrb] at this;cases this
    simp only[go_sem,zE];exact yQ0 ⟨by rw[hno],rfl⟩
   ·simp only[go_sem,zE,reduceCtorEq,f0,f1,f2,f7,yQa hlt (show l.length<=281474976710656 by omega)];exact hyes (by rw[hrb,Bool.or_true])
  ·simp only[go_sem,zE,reduceCtorEq,f0,f1,f2,f7,yQa hlt (show l.length<=281474976710656 by omega)];exact hyes (by rw[hra,Bool.true_or])
 ·rintro fr st1 _ ⟨hk,f0,f1,f2,f7,rfl,rfl⟩;rw[lTl] at hk;simp only[go_sem,zE,reduceCtorEq,f0,f7,i1.len,yQk (nLi _)];intro _;exact yQ0 ⟨by rw[hk],rfl⟩
set_option maxHeartbeats 1000000 in
theorem wXi {ca:Nat}(hcc:ca=1\/ca=2)(s:Sq)(x:IV)(hx:IsSq s x)(hs:yVt s)(st:ISt):ICall prog gl 267 [.raw (.int .u8 ca),x] st (λr st'=>r=.raw (.bool (yXs ca s))/\st'=st):=by
 have hc:ca≠3:=by omega
 have hF:=λf z hz (hf:f.size<=1000000) st=>xYl gl ca (by omega) f z hz (by omega) st;have hAl:=λf g z w hz hw (hf:fmB ca f=true) (hg:g.size<=1000000) st=>xJ0 gl f g z w hz hw (by have:=(yXi.1 hf).2.1;omega) hg st;obtain⟨l,r⟩:=s;obtain⟨t1,x1,t2,x2,rfl,e1,i1,e2,i2⟩:=hx;simp only[yVt] at hs i1 i2;obtain⟨hl,hr⟩:=hs;have k1:decide (((ca:Nat):Int)<1)=false:=dEf (by omega);have k2:decide ((3:Int)<((ca:Nat):Int))=false:=dEf (by omega);have k3:decide ((64:Int)<((l.length:Nat):Int))=decide (64<l.length):=by rw[decide_eq_decide];omega
 have k4:decide ((64:Int)<((r.length:Nat):Int))=decide (64<r.length):=by rw[decide_eq_decide];omega
 have k5:decide (((ca:Nat):Int)=2)=decide (ca=2):=by rw[decide_eq_decide];omega
 have hk:yXo ca=true:=by
  simp only[yXo,bAt,dTe];omega
 refine iI func267 ?_;cases q3:decide (64<l.length)
 case true =>
  simp only[go_sem,zE,zB,zA,zM,zS,zL,reduceCtorEq,fits,k1,k2,k3,q3,i1.len];intros;exact yQ0 ⟨by rw[yG0 λh=>by have:=h.2.1;have:=of_decide_eq_true q3;simp only at *;omega],rfl⟩
 cases q4:decide (64<r.length)
 case true =>
  simp only[go_sem,zE,zB,zA,zM,zS,zL,reduceCtorEq,fits,k1,k2,k3,k4,q3,q4,i1.len,i2.len];intros;exact yQ0 ⟨by rw[yG0 λh=>by have:=h.2.2.1;have:=of_decide_eq_true q4;simp only at *;omega],rfl⟩
 have hll:l.length<=64:=by have:=of_decide_eq_false q3;omega
 have hlr:r.length<=64:=by have:=of_decide_eq_false q4;omega
 simp only[go_sem,zE,zB,zA,zM,zS,zL,reduceCtorEq,fits,k1,k2,k3,k4,q3,q4,i1.len,i2.len];intros;refine LoopC.ctr l.length (λk fr st' ds=>(∀f∈l.take k,fmB ca f=true)/\fr 0=.iv (.raw (.int .u8 ca))/\fr 3=.box [.sl t1 x1,.sl t2 x2]/\fr 5=.iv (.raw (.int .i64 k))/\st'=st/\ds=[]) ?_ ?_ ?_
 ·simp only[go_sem,zE,zB,zA,zM,zS,zL,reduceCtorEq];exact⟨nofun,rfl⟩
 ·rintro k fr st1 _ hlt ⟨hkk,f0,f3,f5,rfl,rfl⟩;obtain⟨a,ha⟩:=yQ3 hlt;have ham:=lMg ha;obtain⟨z,hkz,hzz⟩:=i1.get ha;have hcall:=λst=>hF a z hzz (hl a ham) st;obtain⟨o5,n5,t5,x5,t6,x6,rfl⟩:=hzz.agg;simp only[go_sem,zE,zB,zA,zM,zS,zL,reduceCtorEq,f0,f3,f5,i1.len,lt_i hlt,yQ2 e1,iNn,hkz,fits];intro _;refine (hcall _).mono ?_;rintro _ st2 ⟨rfl,rfl⟩;cases hra:fmB ca a
  ·simp only[go_sem,zE,zB,zA,zM,zS,zL,reduceCtorEq,f0,f3,f5,fits];exact yQ0 ⟨by rw[yG0 λh=>by have:=h.2.2.2.1 a ham;rw[hra] at this;cases this],rfl⟩
  ·simp only[go_sem,zE,zB,zA,zM,zS,zL,reduceCtorEq,f0,f3,f5,fits,yQa hlt (show l.length<=281474976710656 by omega)];intro f hf;rw[yQ8 ha] at hf;rcases List.mem_append.1 hf with hf|hf
   ·exact hkk f hf
   ·rw[List.mem_singleton.1 hf];exact hra
 ·rintro fr st1 _ ⟨hkl,f0,f3,f5,rfl,rfl⟩;rw[lTl] at hkl;simp only[go_sem,zE,zB,zA,zM,zS,zL,reduceCtorEq,f0,f3,f5,i1.len,yQk (nLi _)];intro _;refine LoopC.ctr r.length (λk fr st' ds=>(∀f∈r.take k,qV ca ((r[0]?).getD fm0) f)/\fr 0=.iv (.raw (.int .u8 ca))/\fr 3=.box [.sl t1 x1,.sl t2 x2]/\fr 6=.iv (.raw (.int .i64 k))/\st'=st1/\ds=[]) ?_ ?_ ?_
  ·simp only[go_sem,zE,zB,zA,zM,zS,zL,reduceCtorEq,f0,f3];exact⟨nofun,rfl⟩
  ·rintro k fr st1 _ hlt ⟨hkk,f0,f3,f6,rfl,rfl⟩;obtain⟨a,ha⟩:=yQ3 hlt;have ham:=lMg ha;obtain⟨z,hkz,hzz⟩:=i2.get ha;obtain⟨b,hb⟩:=yQ3 (show 0<r.length by omega);obtain⟨zb,hkb,hzb⟩:=i2.get hb;have hcall:=λst=>hF a z hzz (hr a ham) st;have hcal2:=λhf st=>hAl b a zb z hzb hzz hf (hr a ham) st;have hhd:(r[0]?).getD fm0=b:=by rw[hb];rfl
   rw[hhd] at hkk ⊢;have hbad:∀h:¬ qV ca b a,yXs ca ⟨l,r⟩=false:=λh=>yG0 λh'=>h (by have:=h'.2.2.2.2 a ham;rwa [hhd] at this);have hgood:qV ca b a->∀f∈r.take (k+1),qV ca b f:=λh f hf=>by
    rw[yQ8 ha] at hf;rcases List.mem_append.1 hf with hf|hf
    ·exact hkk f hf
    ·rw[List.mem_singleton.1 hf];exact h
   obtain⟨o5,n5,t5,x5,t6,x6,rfl⟩:=hzz.agg;obtain⟨o7,n7,t7,x7,t8,x8,rfl⟩:=hzb.agg;simp only[go_sem,zE,zB,zA,zM,zS,zL,reduceCtorEq,f0,f3,f6,i2.len,lt_i hlt,yQ2 e2,iNn,hkz,fits];intro _;refine (hcall _).mono ?_;rintro _ st2 ⟨rfl,rfl⟩;cases hra:fmB ca a
   ·simp only[go_sem,zE,zB,zA,zM,zS,zL,reduceCtorEq,f0,f3,f6,fits];exact yQ0 ⟨by rw[hbad λh=>by rw[h.1] at hra;cases hra],rfl⟩
   ·have hfb:fmB ca b=true:=by
     by_cases h0:k=0
     ·rw[h0,hb] at ha;cases ha;exact hra
     ·exact (hkk b (lMg (i:=0) (by rw[List.getElem?_take,if_pos (by omega),hb]))).1
    cases q5:decide (ca=2)
    ·simp only[go_sem,zE,zB,zA,zM,zS,zL,reduceCtorEq,f0,f3,f6,fits,k5,q5,yQa hlt (show r.length<=281474976710656 by omega)];exact hgood ⟨hra,λh=>absurd h (of_decide_eq_false q5)⟩
    ·simp only[go_sem,zE,zB,zA,zM,zS,zL,reduceCtorEq,f0,f3,f6,fits,k5,q5,i2.len,yQ2 e2,iNn,hkz,hkb,Int.le_refl,Int.toNat_zero];intros;refine (hcal2 hfb _).mono ?_;rintro _ st2 ⟨rfl,rfl⟩;cases hrb:yJf b a
     ·simp only[go_sem,zE,zB,zA,zM,zS,zL,reduceCtorEq,f0,f3,f6,fits];exact yQ0 ⟨by rw[hbad λh=>by rw[h.2 (of_decide_eq_true q5)] at hrb;cases hrb],rfl⟩
     ·simp only[go_sem,zE,zB,zA,zM,zS,zL,reduceCtorEq,f0,f3,f6,fits,yQa hlt (show r.length<=281474976710656 by omega)];exact hgood ⟨hra,λ_=>hrb⟩
  ·rintro fr st1 _ ⟨hkr,f0,f3,f6,rfl,rfl⟩;rw[lTl] at hkr;simp only[go_sem,zE,zB,zA,zM,zS,zL,reduceCtorEq,f0,f3,f6,i2.len,yQk (nLi _)];intro _;exact yQ0 ⟨by rw[yVw.2 ⟨hk,hll,hlr,hkl,hkr⟩],rfl⟩
theorem wQl {ca:Nat}(hc:ca≠3){l:List Fm}(hl:∀a∈l,fmB ca a=true)(f:Fm):hasF l f=hasL l f:=by
 rw[Bool.eq_iff_iff,yUo,yYq];constructor
 ·rintro⟨a,ha,h⟩;rw[zJu] at h;unfold yJf at h;rw[bAt] at h;rw[<- vQe hc [] a f (yXi.1 (hl a ha)).2.2.2 (yZ2.1 h.2)];exact ha
 ·exact λh=>⟨f,h,zX9 (by obtain⟨h1,h2,h3,_⟩:=yXi.1 (hl f h);exact wJ9 h1 h2 h3)⟩
theorem wWx (l w:List Fm)(t1 t2:Tag)(xs ws:List IV)(e1:okEs t1 4)(i1:IsFms l xs)(e2:okEs t2 4)(i2:IsFms w ws)(hw:∀a∈w,fmB 1 a=true)(hf:fitL l)(hl:l.length<=1000000/\w.length<=1000000)(st:ISt) :
  ICall prog gl 132 [.sl t1 xs,.sl t2 ws] st (λr st'=>(∃tg ys,r=.sl tg ys/\okEs tg 4/\IsFms (yX0 l w) ys)/\st'=st):=by
 have hH:=λf y hy hf st=>zXg gl (by decide:1≠3) w t2 ws e2 i2 f y hy hw hf (by omega) st;refine iI func132 ?_;simp only[go_sem,zE,zB,zA,zM,zS,zL,reduceCtorEq];refine LoopC.ctr l.length (λk fr st' ds=>(∃tg ys,fr 5=.iv (.sl tg ys)/\IsFms (yX0 (l.take k) w) ys/\own st' tg ys.length 4 st/\subSt st st')/\fr 0=.iv (.sl t1 xs)/\fr 1=.iv (.sl t2 ws)/\fr 6=.iv (.raw (.int .i64 k))/\ds=[]) ?_ ?_ ?_
 ·simp only[go_sem,zE,zB,zA,zM,zS,zL,reduceCtorEq];exact⟨⟨_,_,rfl,rfl,own.nil _ _ _ _ _,subSt.refl _⟩,rfl⟩
 ·rintro k fr st1 _ hlt ⟨⟨tg,ys,f5,hys,hown,hsub⟩,f0,f1,f6,rfl⟩;obtain⟨a,ha⟩:=yQ3 hlt;have ham:=lMg ha;obtain⟨z,hkz,hzz⟩:=i1.get ha;have hcall:=λst=>hH a z hzz (hf a ham) st;have hz0:=hzz;obtain⟨o5,n5,t5,x5,t6,x6,rfl⟩:=hzz.agg;have hyl:ys.length<=k:=by
   rw[hys.len];unfold yX0;refine Nat.le_trans (List.length_filter_le ..) ?_;rw[List.length_take];omega
  have hta:yX0 (l.take (k+1)) w=yX0 (l.take k) w++(if hasL w a=true then [] else [a]):=by
   rw[yQ8 ha,yYn];congr 1;simp only[yX0,List.filter_cons,List.filter_nil];cases hasL w a<;>rfl
  simp only[go_sem,zE,zB,zA,zM,zS,zL,reduceCtorEq,f0,f1,f5,f6,i1.len,lt_i hlt,yQ2 e1,iNn,hkz,fits];intro _;refine (hcall _).mono ?_;rintro _ st2 ⟨rfl,rfl⟩;rw[wQl (by decide) hw];cases hh:hasL w a
  ·simp only[go_sem,zE,zB,zA,zM,zS,zL,reduceCtorEq,f0,f1,f5,f6,yQ2 e1,iNn,hkz,fits,yQ1];intros;refine yZb hown rfl hsub rfl (by simp[fits,IV.one]) (by simp only;omega) (by omega) λtg2 st4 hown2 hsub4 _ _=>?_;simp only[go_sem,zE,zB,zA,zM,zS,zL,reduceCtorEq,f0,f1,f5,f6,fits,yQa hlt (show l.length<=281474976710656 by omega)];refine⟨_,_,rfl,?_,by rw[lLa];exact hown2,hsub4⟩;rw[hta,hh];exact hys.append (IsFms.one hz0)
  ·simp only[go_sem,zE,zB,zA,zM,zS,zL,reduceCtorEq,f0,f1,f5,f6,fits,yQa hlt (show l.length<=281474976710656 by omega)];refine⟨_,_,rfl,?_,hown,hsub⟩;rw[hta,hh];simpa using hys
 ·rintro fr st1 _ ⟨⟨tg,ys,f5,hys,hown,hsub⟩,f0,f1,f6,rfl⟩;rw[lTl] at hys;simp only[go_sem,zE,zB,zA,zM,zS,zL,reduceCtorEq,f0,f1,f5,f6,i1.len,yQk (nLi _)];intro _;exact yQb (st':=st) hsub ⟨⟨_,_,rfl,hown.es,hys⟩,rfl⟩
theorem vK1 (l w:List Fm)(t1 t2:Tag)(xs ws:List IV)(e1:okEs t1 4)(i1:IsFms l xs)(e2:okEs t2 4)(i2:IsFms w ws)(hw:∀a∈w,fmB 1 a=true)(hlf:∀a∈l,fmB 1 a=true)(hl:l.length<=1000000/\w.length<=1000000)(st:ISt) :
  ICall prog gl 130 [.sl t1 xs,.sl t2 ws] st (λr st'=>(∃tg ys,r=.sl tg ys/\okEs tg 4/\IsFms (yZn l w) ys)/\st'=st):=by
 have hH:=λf y hy hf st=>zXg gl (by decide:1≠3) w t2 ws e2 i2 f y hy hw hf (by omega) st;refine iI func130 ?_;simp only[go_sem,zE,zB,zA,zM,zS,zL,reduceCtorEq];refine LoopC.ctr l.length (λk fr st' ds=>(∃tg ys,fr 5=.iv (.sl tg ys)/\IsFms (yZn (l.take k) w) ys/\own st' tg ys.length 4 st/\subSt st st')/\fr 0=.iv (.sl t1 xs)/\fr 1=.iv (.sl t2 ws)/\fr 6=.iv (.raw (.int .i64 k))/\ds=[]) ?_ ?_ ?_
 ·simp only[go_sem,zE,zB,zA,zM,zS,zL,reduceCtorEq];exact⟨⟨_,_,rfl,rfl,own.nil _ _ _ _ _,subSt.refl _⟩,rfl⟩
 ·rintro k fr st1 _ hlt ⟨⟨tg,ys,f5,hys,hown,hsub⟩,f0,f1,f6,rfl⟩;obtain⟨a,ha⟩:=yQ3 hlt;have ham:=lMg ha;obtain⟨z,hkz,hzz⟩:=i1.get ha;have hfz:a.size<=1000000:=by have:=(yXi.1 (hlf a ham)).2.1;omega
  have hcall:=λst=>hH a z hzz hfz st;have hz0:=hzz;have hps:∀f∈yZn (l.take k) w,f∈l.take k:=λf hf=>(zWs hf).elim nofun id;have hpf:∀f∈yZn (l.take k) w,fmB 1 f=true:=λf hf=>hlf f (List.mem_of_mem_take (hps f hf));have hyl:ys.length<=k:=by
   have:=(yW0 (need:=w) (l:=l.take k) (r:=[])).2;rw[List.length_take] at this;rw[hys.len];simp only[yZn,List.length_nil] at *;omega
  have hcall2:=λst=>zXg gl (by decide:1≠3) (yZn (l.take k) w) tg ys hown.es hys a z hzz hpf hfz (by rw[<- hys.len];omega) st;obtain⟨o5,n5,t5,x5,t6,x6,rfl⟩:=hzz.agg;have hta:yZn (l.take (k+1)) w=yYi w (yZn (l.take k) w) a:=by
   unfold yZn;rw[yQ8 ha,List.foldl_append];rfl
  simp only[go_sem,zE,zB,zA,zM,zS,zL,reduceCtorEq,f0,f1,f5,f6,i1.len,lt_i hlt,yQ2 e1,iNn,hkz,fits];intro _;refine (hcall _).mono ?_;rintro _ st2 ⟨rfl,rfl⟩;rw[wQl (by decide) hw];cases hh:hasL w a
  ·simp only[go_sem,zE,zB,zA,zM,zS,zL,reduceCtorEq,f0,f1,f5,f6,fits,yQa hlt (show l.length<=281474976710656 by omega)];refine⟨_,_,rfl,?_,hown,hsub⟩;rw[hta];simpa[yYi,hh] using hys
  simp only[go_sem,zE,zB,zA,zM,zS,zL,reduceCtorEq,f0,f1,f5,f6,yQ2 e1,iNn,hkz,fits];intros;refine (hcall2 _).mono ?_;rintro _ st2 ⟨rfl,rfl⟩;rw[wQl (by decide) hpf];cases hh2:hasL (yZn (l.take k) w) a
  ·simp only[go_sem,zE,zB,zA,zM,zS,zL,reduceCtorEq,f0,f1,f5,f6,yQ2 e1,iNn,hkz,fits,yQ1];intros;refine yZb hown rfl hsub rfl (by simp[fits,IV.one]) (by simp only;omega) (by omega) λtg2 st4 hown2 hsub4 _ _=>?_;simp only[go_sem,zE,zB,zA,zM,zS,zL,reduceCtorEq,f0,f1,f5,f6,fits,yQa hlt (show l.length<=281474976710656 by omega)];refine⟨_,_,rfl,?_,by rw[lLa];exact hown2,hsub4⟩;rw[hta];simp only[yYi,hh,hh2];exact hys.append (IsFms.one hz0)
  ·simp only[go_sem,zE,zB,zA,zM,zS,zL,reduceCtorEq,f0,f1,f5,f6,fits,yQa hlt (show l.length<=281474976710656 by omega)];refine⟨_,_,rfl,?_,hown,hsub⟩;rw[hta];simpa[yYi,hh,hh2] using hys
 ·rintro fr st1 _ ⟨⟨tg,ys,f5,hys,hown,hsub⟩,f0,f1,f6,rfl⟩;rw[lTl] at hys;simp only[go_sem,zE,zB,zA,zM,zS,zL,reduceCtorEq,f0,f1,f5,f6,i1.len,yQk (nLi _)];intro _;exact yQb (st':=st) hsub ⟨⟨_,_,rfl,hown.es,hys⟩,rfl⟩
mutual
def okRu:Tr->Prop
 | .mk r _ _ _ _ sub=>1<=r/\r<=12/\xUb sub
def xUb:List Tr->Prop
 | []=>True
 | a::l=>okRu a/\xUb l
end
theorem zUf:∀ {l:List Tr}{a:Tr},xUb l->a∈l->okRu a
 | b::l,a,h,hm=>by
  simp only[xUb] at h;rcases List.mem_cons.1 hm with rfl|hm
  ·exact h.1
  ·exact zUf h.2 hm
theorem wQ6:∀r,r<=12->1<=r->yV8 r=!(decide (2<r)&&decide (r%2=0)):=by decide
def wGo (t:Tr):Prop:=∀(x:IV) (_:IsTr t x) (_:okRu t) (_:t.steps<=1000) (st:ISt),ICall prog gl 82 [x] st (λr st'=>IsNd (zQ7 t) r/\st'=st)
theorem xGt (rule:Nat)(s:Sq)(f:Fm)(u:Tm)(n:ByteArray)(sub:List Tr)(IH:∀a∈sub,wGo gl a):wGo gl (.mk rule s f u n sub):=by
 intro x hx hru0 hst st;obtain⟨tl,xl,tr,xr,op,fn,ta,xa,tb,xb,v,un,tu,xu,ts,xs,rfl,hru,e1,i1,e2,i2,hy,hz,e3,i3⟩:=hx.mk;simp only[Tr.steps] at hst;simp only[okRu] at hru0;obtain⟨h1,h12,hsub0⟩:=hru0;have hlsub:=yZ7 sub;have k2:decide (((rule:Nat):Int)<=2)=decide (rule<=2):=by rw[decide_eq_decide];omega
 have k3:decide ((2:Int)<((rule:Nat):Int))=decide (2<rule):=by rw[decide_eq_decide];omega
 have ht:((rule:Nat):Int).tmod 2=((rule%2:Nat):Int):=by rw[Int.tmod_eq_emod_of_nonneg (by omega)];omega
 have k4:decide (((rule%2:Nat):Int)=0)=decide (rule%2=0):=by rw[decide_eq_decide];omega
 have hle:=wQ6 rule h12 h1;have hcl:(decide (rule=1) || decide (rule=2))=decide (rule<=2):=by rw[Bool.eq_iff_iff];simp;omega
 refine iI func82 ?_;cases q3:decide (2<rule)<;>cases q4:decide (rule%2=0)
 all_goals
  rw[q3,q4] at hle;simp only[Bool.and_self,Bool.and_true,Bool.and_false,Bool.not_true,Bool.not_false] at hle;simp only[go_sem,zE,zB,zA,zM,zS,zL,reduceCtorEq,fits,k2,k3,q3,ht,k4,q4,Int.reduceEq];refine LoopC.ctr sub.length (λk fr st' ds=>(∃tg ys,fr 3=.box [.raw (.bool (yV8 rule)),.raw (.int .i64 0),.raw (.int .u8 op),.raw (.string fn),.sl ta xa,.sl tb xb,.raw (.bool (decide (rule<=2))),.raw (.int .i64 0),.sl tg ys]/\IsNds (yV6 (sub.take k)) ys/\own st' tg k 9 st/\subSt st st') /\
   fr 1=.box [.raw (.int .u8 rule),.sl tl xl,.sl tr xr,.raw (.int .u8 op),.raw (.string fn),.sl ta xa,.sl tb xb,.raw (.bool v),.raw (.string un),.sl tu xu,.raw (.string n),.sl ts xs]/\fr 2=.box [.raw (.bool false),.raw (.int .i64 0),.raw (.int .u8 0),.raw (.string ⟨#[]⟩),.sl ⟨true,.nil,0⟩ [],.sl ⟨true,.nil,0⟩ [],.raw (.bool false),.raw (.int .i64 0),.sl ⟨true,.nil,0⟩ []]/\fr 4=.iv (.raw (.int .i64 k))/\ds=[]) ?_ ?_ ?_
  ·simp only[go_sem,zE,zB,zA,zM,zS,zL,reduceCtorEq];exact⟨⟨_,_,by rw[hle],rfl,own.nil _ _ _ _ _,subSt.refl _⟩,rfl⟩
  ·rintro k fr st1 _ hlt ⟨⟨tg,ys,f3,hys,hown,hsub⟩,f1,f2,f4,rfl⟩;obtain⟨a,ha⟩:=yQ3 hlt;have ham:=lMg ha;obtain⟨z,hkz,hzz⟩:=i3.get ha;have hlen2:ys.length=k:=by rw[hys.len,zQ5,List.length_take];omega
   have hcall:=λst=>IH a ham z hzz (zUf hsub0 ham) (by have:=yZ4 ham;omega) st;obtain⟨rule',tl',xl',tr',xr',op',fn',ta',xa',tb',xb',v',un',tu',xu',n',ts',xs',rfl⟩:=yX4 hzz;simp only[go_sem,zE,zB,zA,zM,zS,zL,reduceCtorEq,f1,f3,f4,i3.len,lt_i hlt,yQ2 e3,iNn,hkz,fits];intro _;refine (hcall _).mono ?_;rintro r _ ⟨hr,rfl⟩;have hn:IsNds (yV6 (sub.take (k+1))) (ys++[r]):=by
    rw[yQ8 ha,zQ6];exact hys.append ⟨_,_,rfl,hr,rfl⟩
   obtain⟨_,_,_,_,_,_,_,_,_,_,_,_,rfl⟩:=yXq hr;simp only[go_sem,zE,zB,zA,zM,zS,zL,reduceCtorEq,f1,f3,f4,fits,yQ1];refine yZb hown hlen2 hsub rfl (by simp[fits,IV.one]) (by simp only;omega) (by omega) λtg2 st4 hown2 hsub4 _ _=>?_;simp only[go_sem,zE,zB,zA,zM,zS,zL,reduceCtorEq,f1,f2,f3,f4,fits,yQa hlt (show sub.length<=281474976710656 by omega)];exact⟨tg2,_,rfl,hn,hown2,hsub4⟩
  ·rintro fr st1 _ ⟨⟨tg,ys,f3,hys,hown,hsub⟩,f1,f2,f4,rfl⟩;rw[lTl] at hys;simp only[go_sem,zE,zB,zA,zM,zS,zL,reduceCtorEq,f1,f2,f3,f4,i3.len,yQk (nLi _),fits];intro _;refine yQb (st':=st) hsub ⟨?_,rfl⟩;simp only[zQ7,hcl,IsNd];exact⟨_,_,_,_,_,_,_,_,rfl,hy,hown.es,hys⟩
theorem xJu:∀(k:Nat)(t:Tr),SizeOf.sizeOf t<k->wGo gl t
 | 0,t,h=>by omega
 | k+1,.mk r sq f u n sub,h=>xGt gl r sq f u n sub (λa ha=>xJu k a (by
   have:=lSm ha;simp at h;omega))
set_option maxHeartbeats 4000000 in
theorem xXy {ca:Nat}(hc:ca=1\/ca=2)(rule:Nat)(st:ISt):ICall prog gl 189 [.raw (.int .u8 ca),.raw (.int .u8 rule)] st (λr st'=>wV4 ca rule r/\st'=st):=by
 refine iI func189 ?_;by_cases h:18<rule
 ·have ds:∀j:Int,j<=18->decide (((rule:Nat):Int)=j)=false:=λj hj=>dEf (by omega);simp only[go_sem,zE,ds,Int.reduceLE];refine yQ0 ⟨?_,rfl⟩;have:rowS ca rule=none:=by
   unfold rowS rowK
   repeat rw[if_neg (by omega)]
  unfold wV4;rw[this];exact⟨_,_,_,rfl⟩
 rcases (show rule=0\/rule=1\/rule=2\/rule=3\/rule=4\/rule=5\/rule=6\/rule=7\/rule=8\/rule=9\/rule=10\/rule=11\/rule=12\/rule=13\/rule=14\/rule=15\/rule=16\/rule=17\/rule=18 by omega) with rfl|rfl|rfl|rfl|rfl|rfl|rfl|rfl|rfl|rfl|rfl|rfl|rfl|rfl|rfl|rfl|rfl|rfl|rfl
 all_goals rcases hc with rfl|rfl
 all_goals
  simp only[go_sem,zE,reduceCtorEq,Int.cast_ofNat_Int,Int.reduceEq,decide_true,decide_false];exact yQ0 ⟨by first|exact rfl|exact⟨_,_,_,rfl⟩,rfl⟩
theorem zUh {tg:Tag}{es:Nat}(h:okEs tg es)(len hh l:Nat):okEs (yVz (reTag es tg) len hh l none) es:=by
 have:=yQ2 h;unfold yVz;by_cases h1:(reTag es tg).cap=.nil
 ·rw[if_pos h1];exact .inr this
 ·rw[if_neg h1];by_cases h2:l=0/\hh=len
  ·simp only[if_pos h2];exact .inr this
  ·simp only[if_neg h2];exact .inr this
theorem zGs {n:Nat}(h:1<=n):yXu (some 1) none n=some (1,n):=by
 simp only[yXu,Option.getD_none,Option.getD_some];rw[if_pos (by omega)];rfl
theorem zGr {n:Nat}(h:1<=n):yXu none (some 1) n=some (0,1):=by
 simp only[yXu,Option.getD_none,Option.getD_some];rw[if_pos (by omega)];rfl
inductive RowI:Nat->Rw->Prop
 | a:RowI 1 ⟨true,true,0,0⟩
 | b:RowI 2 ⟨true,false,2,0⟩
 | c:RowI 3 ⟨true,false,3,0⟩
 | d:RowI 4 ⟨false,true,3,0⟩
 | e:RowI 5 ⟨true,false,4,0⟩
 | f:RowI 6 ⟨false,true,4,0⟩
 | g:RowI 7 ⟨true,false,5,0⟩
 | h:RowI 8 ⟨false,true,5,0⟩
 | i:RowI 9 ⟨true,false,6,0⟩
 | j:RowI 10 ⟨false,true,6,0⟩
 | k:RowI 11 ⟨true,false,7,0⟩
 | l:RowI 12 ⟨false,true,7,0⟩
 | m:RowI 17 ⟨false,false,0,0⟩
 | n:RowI 18 ⟨false,true,5,0⟩
theorem xZd {ca rule:Nat}{r:Rw}(hc:ca=1\/ca=2)(h:rowS ca rule=some r):RowI rule r:=by
 by_cases h18:18<rule
 ·unfold rowS rowK at h
  repeat rw[if_neg (by omega)] at h
  cases h
 ·rcases (show rule=0\/rule=1\/rule=2\/rule=3\/rule=4\/rule=5\/rule=6\/rule=7\/rule=8\/rule=9\/rule=10\/rule=11\/rule=12\/rule=13\/rule=14\/rule=15\/rule=16\/rule=17\/rule=18 by omega) with rfl|rfl|rfl|rfl|rfl|rfl|rfl|rfl|rfl|rfl|rfl|rfl|rfl|rfl|rfl|rfl|rfl|rfl|rfl
  all_goals rcases hc with rfl|rfl
  all_goals
   simp[rowS,rowK] at h
   try (subst h;constructor)
theorem yWz {ca rule:Nat}{r:Rw}{main:Fm}{u:Tm}{n:ByteArray}(hc:ca≠3)(hR:rowS ca rule=some r):yJ6 ca rule r main u n=if fmB ca main=true/\(r.op=0\/main.op=r.op) then (addS ca rule main ((main.subs[0]?).getD fm0) ((main.subs[1]?).getD fm0),0) else ([],192):=by
 split
 ·rename_i h;rw[xVi h.1 h.2]
 ·rename_i h;unfold yJ6;rw[if_pos];by_cases hf:fmB ca main=true
  ·have h0:r.op≠0:=λq=>h ⟨hf,.inl q⟩;have h1:main.op≠r.op:=λq=>h ⟨hf,.inr q⟩;simp[h0,h1]
  ·simp[hf]
theorem xVh {ca rule:Nat}{r:Rw}{main:Fm}{u:Tm}{n:ByteArray}{ad:List Sq}(hc:ca=1\/ca=2)(hR:rowS ca rule=some r)(h:yJ6 ca rule r main u n=(ad,0)) :
  ∀q∈ad,q.l.length<=2/\q.r.length<=2/\(∀f∈q.l,fmB ca f=true)/\∀f∈q.r,fmB ca f=true:=by
 have hc3:ca≠3:=by omega
 rw[yWz hc3 hR] at h;split at h
 case isFalse=>cases (Prod.mk.inj h).2
 rename_i hb;obtain⟨hf,hop⟩:=hb;obtain rfl:=(Prod.mk.inj h).1;cases vJ8 hc3 hf with
 | atom n=>cases xZd hc hR<;>simp[Fm.op] at hop<;>simp[addS,hf]
 | fls=>cases xZd hc hR<;>simp[Fm.op] at hop<;>simp[addS,hf]
 | neg _ =>
  have:=vQ1 hf;cases xZd hc hR<;>simp[Fm.op] at hop<;>simp[addS,hf,Fm.subs,this]
 | @bin o a b h4 h7 _ _ =>
  obtain⟨k1,k2,k3,k4⟩:=vQ3 ⟨by omega,h4,h7⟩ hf;have k3:fmB ca (impF a b)=true:=k3;have k4:fmB ca (impF b a)=true:=k4;cases xZd hc hR
  all_goals dsimp only[Fm.op] at hop
  all_goals try (exfalso;omega)
  all_goals rcases hc with rfl|rfl<;>simp[addS,hf,Fm.subs,k1,k2,k3,k4]
theorem himp {a b:Fm}{ya yb:IV}{t:Tag}(ht:okEs t 4)(ha:IsFm a ya)(hb:IsFm b yb):IsFm (impF a b) (.agg [.raw (.int .u8 6),.raw (.string ⟨#[]⟩),.sl ⟨true,.nil,0⟩ [],.sl t [ya,yb]]):=by
 simp only[IsFms,impF,IsFm];exact⟨_,_,_,_,rfl,by omega,.inl rfl,rfl,ht,_,_,rfl,ha,_,_,rfl,hb,rfl⟩
set_option maxHeartbeats 8000000 in
theorem xJ1 {ca:Nat}(hc:ca=1\/ca=2)(rule:Nat)(main:Fm)(y:IV)(hy:IsFm main y)(hm:main.size<=1000000)(term:Tm)(z:IV)(hz:IsTm term z)(name:ByteArray)(st:ISt) :
  ICall prog gl 131 [.raw (.int .u8 ca),.raw (.int .u8 rule),y,z,.raw (.string name)] st (AdR st (yVp ca rule main term name)):=by
 have hc3:ca≠3:=by omega
 have hW:=λst=>xXy gl hc rule st;have hF:=λst=>xYl gl ca (by omega) main y hy (by omega) st;have hy0:=hy;obtain⟨op,nm,us,sub⟩:=main;obtain⟨t1,x1,t4,x4,rfl,ho,e1,i1,e4,i4⟩:=hy.mk;obtain⟨v5,n5,t5,x5,rfl⟩:=hz.agg;have k1:decide (((ca:Nat):Int)<1)=false:=dEf (by omega);have k2:decide ((3:Int)<((ca:Nat):Int))=false:=dEf (by omega);have hk:yXo ca=true:=by
  simp only[yXo,bAt,dTe];omega
 refine ICall.intro (c:=cf prog gl [] [(39,[0,1,3,4,2,5,6,7,8]),(48,[0,1,2,3,4,5,10,6,7,8,9,11,12])]) func131 rfl (by show _<=197;simp) (by kernel_rfl) ?_;simp only[go_sem,zE,zB,zA,zM,zS,zL,reduceCtorEq,fits,k1,k2];intros;refine (hW _).mono ?_;rintro w st ⟨hw,rfl⟩;unfold wV4 at hw;unfold yVp;rw[hk];cases hrow:rowS ca rule with
 | none =>
  rw[hrow] at hw;obtain⟨o9,a9,b9,rfl⟩:=hw;simp only[go_sem,zE,zB,zA,zM,zS,zL,reduceCtorEq,fits];exact yQ0 ⟨_,_,rfl,.inl rfl,rfl,rfl⟩
 | some r =>
  rw[hrow] at hw;simp only at hw;subst hw;simp only[Bool.not_true,bFt,if_false,yWz hc3 hrow];simp only[go_sem,zE,zB,zA,zM,zS,zL,reduceCtorEq,fits];refine (hF _).mono ?_;rintro _ st ⟨rfl,rfl⟩;cases hf:fmB ca (.mk op nm us sub)
  ·simp only[go_sem,zE,zB,zA,zM,zS,zL,reduceCtorEq,fits];exact yQ0 ⟨_,_,rfl,.inl rfl,rfl,rfl⟩
  by_cases hop:r.op=0\/op=r.op
  case neg =>
   rw[if_neg λh=>hop h.2];have k4:decide (((r.op:Nat):Int)=0)=false:=dEf (by omega);have k5:decide (((op:Nat):Int)=((r.op:Nat):Int))=false:=dEf (by omega);simp only[go_sem,zE,zB,zA,zM,zS,zL,reduceCtorEq,fits,k4,k5];intros;exact yQ0 ⟨_,_,rfl,.inl rfl,rfl,rfl⟩
  rw[if_pos ⟨rfl,hop⟩];have s3:∀a b c,(reTag 4 (yVz (reTag 4 t4) a b c none)).es=4:=λa b c=>yQ2 (zUh e4 a b c);have s1:=zGs (show 1<=1 by omega);have s2:=zGr (show 1<=1 by omega);have s4:=zGs (show 1<=2 by omega);have s5:=zGr (show 1<=2 by omega);have io2:∀x y:Operand,yZk 2 [(0,x),(1,y)]=true:=λ_ _=>rfl;have hsh:(sub=[]/\op<=2)\/(op=3/\∃a,sub=[a])\/(4<=op/\op<=7/\∃a b,sub=[a,b]):=by
   cases vJ8 hc3 hf with
   | atom n=>exact .inl ⟨rfl,by decide⟩
   | fls=>exact .inl ⟨rfl,by decide⟩
   | neg _=>exact .inr (.inl ⟨rfl,_,rfl⟩)
   | bin h4 h7 _ _=>exact .inr (.inr ⟨h4,h7,_,_,rfl⟩)
  have hC:=xZd hc hrow;rcases hsh with⟨rfl,h2⟩|⟨rfl,a,rfl⟩|⟨h4,h7,a,b,rfl⟩
  all_goals first
   | (obtain⟨ya,_,rfl,hya,yb,_,rfl,hyb,rfl⟩:=i4
      obtain⟨oa,na,ta1,xa1,ta2,xa2,rfl⟩:=hya.agg;obtain⟨ob,nb,tb1,xb1,tb2,xb2,rfl⟩:=hyb.agg;obtain rfl|rfl|rfl|rfl:op=4\/op=5\/op=6\/op=7:=by omega)
   | (obtain⟨ya,_,rfl,hya,rfl⟩:=i4
      obtain⟨oa,na,ta1,xa1,ta2,xa2,rfl⟩:=hya.agg)
   | (obtain rfl:x4=[]:=i4
      obtain rfl|rfl|rfl:op=0\/op=1\/op=2:=by omega)
  all_goals cases hC
  all_goals dsimp only at hop
  all_goals try (exfalso;omega)
  all_goals rcases hc with rfl|rfl
  all_goals
   simp only[go_sem,zE,zB,zA,zM,zS,zL,reduceCtorEq,fits,Int.cast_ofNat_Int,Int.reduceEq,Int.reduceLT,decide_true,decide_false,List.length_nil,yQ1,io2,s1,s2,s3,s4,s5,yQ2 e4,Int.le_refl,Int.toNat_zero];intros
   repeat (refine (vJ5 gl _ _ _ _ _).mono ?_;rintro _ _ ⟨rfl,rfl⟩;simp only[go_sem,zE,zB,zA,zM,zS,zL,reduceCtorEq,fits,Int.cast_ofNat_Int,Int.reduceEq,Int.reduceLT,decide_true,decide_false,List.length_nil,yQ1,io2,s1,s2,s3,s4,s5,yQ2 e4,Int.le_refl,Int.toNat_zero])
   refine yQ0 ⟨_,_,rfl,by first|exact .inl rfl|exact .inr rfl,?_,rfl⟩
   repeat' first
    | exact rfl
    | exact hya
    | exact hyb
    | exact hy0
    | exact .inl rfl
    | exact .inr rfl
    | exact e4
    | exact zUh e4 _ _ _
    | exact himp e4 hya hyb
    | exact himp (.inr rfl) hyb hya
    | refine⟨_,_,_,_,rfl,?_,?_,?_,?_⟩
    | refine⟨_,_,rfl,?_,?_⟩
theorem zUa {s:Sq}:∀ {ad:List Sq} {ts:List Tr},(∀(i:Nat) (m:Sq) (t:Tr),ad[i]?=some m->ts[i]?=some t->yXj t.sq (s.plus m)=true)->yXm s ad ts=true
 | [],_,_=>rfl
 | _::_,[],_=>rfl
 | m::ad,t::ts,h=>by
  simp only[yXm,bAt];exact⟨h 0 m t rfl rfl,zUa λi a b h1 h2=>h (i+1) a b (by simpa using h1) (by simpa using h2)⟩
set_option maxHeartbeats 4000000 in
theorem xYm {ca:Nat}(hc:ca=1\/ca=2)(rule:Nat)(s:Sq)(m:Fm)(u:Tm)(n:ByteArray)(sub:List Tr)(x:IV)(hx:IsTr (.mk rule s m u n sub) x)(hn:NA (.mk rule s m u n sub))(st:ISt) :
  ICall prog gl 233 [.raw (.int .u8 ca),x] st (AdR st (yXt ca s rule m u n)):=by
 have hc3:ca≠3:=by omega
 obtain⟨tl,xl,tr,xr,op,fn,ta,xa,tb,xb,v,un,tu,xu,ts,xs,rfl,hru,e1,i1,e2,i2,hy,hz,e3,i3⟩:=hx.mk;simp only[NA] at hn;have hV:=λst=>wXi gl hc s _ ⟨tl,xl,tr,xr,rfl,e1,i1,e2,i2⟩ hn.1 st;have hW:=λst=>xXy gl hc rule st;have hA:=λst=>xJ1 gl hc rule m _ hy hn.2.1 u _ hz n st;have hk:yXo ca=true:=by
  simp only[yXo,bAt,dTe];omega
 refine iI func233 ?_;simp only[go_sem,zE,zA,zL,reduceCtorEq];refine (hV _).mono ?_;rintro _ st ⟨rfl,rfl⟩;unfold yXt;cases hv:yXs ca s
 ·simp only[go_sem,zE];exact yQ0 ⟨_,_,rfl,.inl rfl,rfl,rfl⟩
 obtain⟨_,hl64,hr64,hfl,hfr⟩:=yVw.1 hv;have hHl:=λst=>zXg gl hc3 s.l tl xl e1 i1 m _ hy hfl hn.2.1 (by omega) st;have hHr:=λst=>zXg gl hc3 s.r tr xr e2 i2 m _ hy (λf hf=>(hfr f hf).1) hn.2.1 (by omega) st;simp only[go_sem,zE,zA,reduceCtorEq];refine (hW _).mono ?_;rintro w st ⟨hw,rfl⟩;unfold wV4 at hw;unfold yVp at hA;rw[hk] at hA;cases hrow:rowS ca rule with
 | none =>
  rw[hrow] at hw;obtain⟨o9,a9,b9,rfl⟩:=hw;simp only[go_sem,zE];exact yQ0 ⟨_,_,rfl,.inl rfl,rfl,rfl⟩
 | some r =>
  rw[hrow] at hw hA;simp only[Bool.not_true,bFt,if_false] at hw hA;subst hw;have h14:rule≠14/\rule≠15:=by cases xZd hc hrow<;>decide
  have k14:decide (((rule:Nat):Int)=14)=false:=dEf (by omega);have k15:decide (((rule:Nat):Int)=15)=false:=dEf (by omega);have hq:(yJ6 ca rule r m u n).2=0\/(yJ6 ca rule r m u n).2=192:=by rw[yWz hc3 hrow];split<;>simp
  have has:=xGr hc3 hrow;simp only[has,show decide ((0:Nat)=2)=false from rfl,Bool.false_and,bFt,if_false];generalize yJ6 ca rule r m u n=q at hA hq ⊢;obtain⟨q,e⟩:=q;simp only at hq ⊢;simp only[go_sem,zE,zA,zL,reduceCtorEq];refine (hA _).mono ?_;rintro _ st ⟨tga,za,rfl,hta,hza,rfl⟩;rcases hq with rfl|rfl
  case inr =>
   simp only[go_sem,zE,Int.cast_ofNat_Int,decide_true];intros;exact yQ0 ⟨_,_,rfl,.inl rfl,rfl,rfl⟩
  have k192:decide (((0:Nat):Int)=192)=false:=rfl;generalize hasF s.l m=bl at hHl ⊢;generalize hasF s.r m=br at hHr ⊢;obtain⟨rl,rr,ro,ra⟩:=r;simp only;cases rl
  case' false =>
   simp only[go_sem,zE,reduceCtorEq,k192];intros
  case' true =>
   simp only[go_sem,zE,zA,zL,reduceCtorEq,k192];intros;refine (hHl _).mono ?_;rintro _ st ⟨rfl,rfl⟩;cases bl
   ·simp only[go_sem,zE];intros;exact yQ0 ⟨_,_,rfl,.inl rfl,rfl,rfl⟩
   simp only[go_sem,zE];intros
  all_goals
   cases rr
   ·simp only[go_sem,zE,zA,k14,k15,Int.cast_ofNat_Int,decide_true];intros;exact yQ0 ⟨_,_,rfl,hta,hza,rfl⟩
   ·simp only[go_sem,zE,zA,zL];intros;refine (hHr _).mono ?_;rintro _ st ⟨rfl,rfl⟩;cases br
    ·simp only[go_sem,zE];intros;exact yQ0 ⟨_,_,rfl,.inl rfl,rfl,rfl⟩
    ·simp only[go_sem,zE,zA,k14,k15,Int.cast_ofNat_Int,decide_true];intros;exact yQ0 ⟨_,_,rfl,hta,hza,rfl⟩
mutual
def okUs:Tr->Prop
 | .mk r s m _ _ sub=>(1<=r/\(r<=12\/r=17))/\(addU r m).length=sub.length/\fmB 1 m=true/\(∀f∈s.l,fmB 1 f=true)/\(∀f∈s.r,fmB 1 f=true)/\s.l.length<=64/\s.r.length<=64/\zWy sub
def zWy:List Tr->Prop
 | []=>True
 | a::l=>okUs a/\zWy l
end
theorem zJ3:∀ {l:List Tr}{a:Tr},zWy l->a∈l->okUs a
 | b::l,a,h,hm=>by
  simp only[zWy] at h;rcases List.mem_cons.1 hm with rfl|hm
  ·exact h.1
  ·exact zJ3 h.2 hm
def fmQ1 (s:Sq):Prop:=(∀f∈s.l,fmB 1 f=true)/\(∀f∈s.r,fmB 1 f=true)/\s.l.length<=64/\s.r.length<=64
theorem zZt {l w:List Fm}(h:∀f∈l,fmB 1 f=true)(hl:l.length<=64):(∀f∈yZn l w,fmB 1 f=true)/\(yZn l w).length<=64:=by
 refine⟨λf hf=>h f ((zWs hf).elim nofun id),?_⟩;have:=(yW0 (need:=w) (l:=l) (r:=[])).2;simp only[yZn,List.length_nil] at *;omega
theorem zGd {fin:Sq->Tr}(hf:∀q,fmQ1 (fin q).sq):∀(al:List Sq) (ss:List Tr) (q:Sq),(∀t∈ss,fmQ1 t.sq)->fmQ1 (yJa fin al ss q).sq
 | _,[],q,_=>by simp only[yJa];exact hf q
 | [],s::_,_,h=>by simp only[yJa];exact h s (.head _)
 | a::al,s::ss,q,h=>by
  simp only[yJa];split
  ·exact h s (.head _)
  ·exact zGd hf al ss _ λt ht=>h t (.tail _ ht)
mutual
theorem xJ6:∀t:Tr,okUs t->fmQ1 (yVq t).sq
 | .mk r s m u n sub,h=>by
  simp only[okUs] at h;obtain⟨_,_,_,h1,h2,h3,h4,h5⟩:=h;simp only[yVq,zXj];refine zGd ?_ _ _ _ (zGb sub h5);intro q;exact⟨(zZt h1 h3).1,(zZt h2 h4).1,(zZt h1 h3).2,(zZt h2 h4).2⟩
theorem zGb:∀l:List Tr,zWy l->∀t∈yZr l,fmQ1 t.sq
 | [],_,t,ht=>by simp[yZr] at ht
 | a::l,h,t,ht=>by
  simp only[zWy] at h;simp only[yZr] at ht;rcases List.mem_cons.1 ht with rfl|ht
  ·exact xJ6 a h.1
  ·exact zGb l h.2 t ht
end
theorem zGc:∀ {l:List Tr}{k:Nat}{a:Tr},l[k]?=some a->(yZr l)[k]?=some (yVq a)
 | b::l,0,a,h=>by simp only[List.getElem?_cons_zero,Option.some.injEq] at h;rw[<- h];rfl
 | b::l,k+1,a,h=>by simp only[yZr,List.getElem?_cons_succ] at *;exact zGc h
theorem xKq {l w:List Fm}:decide ((yX0 l w).length=l.length)=!yXn w l:=by
 rw[Bool.eq_iff_iff,dTe,Bool.not_eq_true',<- Bool.not_eq_true];unfold yX0 yXn;rw[List.length_filter_eq_length_iff,List.any_eq_true];constructor
 ·rintro h ⟨f,hf,hl⟩;have:=h f (yUo.1 hl);rw[yUo.2 hf] at this;cases this
 ·intro h f hf;cases hw:hasL w f
  ·rfl
  ·exact absurd ⟨f,yUo.1 hw,yUo.2 hf⟩ h
theorem wZn (r:Nat)(m:Fm)(u:Tm)(n:ByteArray):(yVp 1 r m u n).1=addU r m:=by
 unfold addU yVp;cases hR:rowS 1 r with
 | none=>rfl
 | some R=>simp only[yWz (by decide:1≠3) hR]
theorem vQu {r:Nat}{m:Fm}:∀q∈addU r m,q.l.length<=2/\q.r.length<=2/\(∀f∈q.l,fmB 1 f=true)/\∀f∈q.r,fmB 1 f=true:=by
 unfold addU yVp;have hk:yXo 1=true:=rfl;rw[hk];simp only[Bool.not_true,bFt,if_false];cases hR:rowS 1 r with
 | none=>intro q hq;cases hq
 | some R =>
  simp only;by_cases h:(yJ6 1 r R m tm0 bE).2=0
  ·exact xVh (.inl rfl) hR (Prod.ext rfl h)
  ·rw[yWz (by decide:1≠3) hR] at h ⊢;split at h
   ·exact absurd rfl h
   ·rename_i h';rw[if_neg h'];intro q hq;cases hq
theorem wU8 (r:Nat)(m:Fm)(h:1<=r/\(r<=12\/r=17))(h1:r≠1)(h2:r≠2):zJa r m=⟨if (!decide (r=17)&&decide (r%2=1))=true then [m] else [],if decide (r%2=0)=true then [m] else []⟩:=by
 obtain⟨h0,h|rfl⟩:=h
 ·have:r=3\/r=4\/r=5\/r=6\/r=7\/r=8\/r=9\/r=10\/r=11\/r=12:=by omega
  rcases this with rfl|rfl|rfl|rfl|rfl|rfl|rfl|rfl|rfl|rfl<;>rfl
 ·rfl
theorem xVj {r:Nat}{m:Fm}(h:r=1\/r=2):addU r m=[]:=by
 unfold addU yVp;rcases h with rfl|rfl
 ·have hR:rowS 1 1=some ⟨true,true,0,0⟩:=rfl;simp only[hR,yWz (by decide:1≠3) hR];split<;>(try split)<;>rfl
 ·have hR:rowS 1 2=some ⟨true,false,2,0⟩:=rfl;simp only[hR,yWz (by decide:1≠3) hR];split<;>(try split)<;>rfl
theorem yX6 {l:List Fm}{xs:List IV}(h:IsFms l xs):xs.all (fits true 4)=true:=by
 rw[List.all_eq_true];intro x hx;obtain⟨i,hi⟩:=List.getElem?_of_mem hx;obtain⟨a,ha⟩:=yQ3 (show i<l.length by rw[<- h.len];exact (lGs hi).1);obtain⟨y,hy,hf⟩:=h.get ha;rw[hi] at hy;cases hy;obtain⟨o,n,t,xs,t',ys,rfl⟩:=hf.agg;rfl
theorem xU3:∀l:List Fm,yZn l []=[]:=λl=>by
 unfold yZn
 induction l with
 | nil=>rfl
 | cons a l ih=>rw[List.foldl_cons];simpa[yYi,hasL] using ih
def ruC (t:Tr):Prop:=∀(x:IV) (_:IsTr t x) (_:okUs t) (_:t.steps<=1000) (st:ISt),ICall prog gl 85 [x] st (λr st'=>IsTr (yVq t) r/\st'=st)
set_option maxHeartbeats 4000000 in
theorem wGg (rule:Nat)(s:Sq)(m:Fm)(u:Tm)(n:ByteArray)(sub:List Tr)(IH:∀a∈sub,ruC gl a):ruC gl (.mk rule s m u n sub):=by
 intro x hx hok hst st;obtain⟨tl,xl,tr,xr,op,fn,ta,xa,tb,xb,v,un,tu,xu,ts,xs,rfl,hru,e1,i1,e2,i2,hy,hz,e3,i3⟩:=hx.mk;simp only[Tr.steps] at hst;simp only[okUs] at hok;obtain⟨hr0,hal,hm,hfl,hfr,hl64,hr64,hsub0⟩:=hok;have hlsub:=yZ7 sub;have hmsz:m.size<=1000000:=by have:=(yXi.1 hm).2.1;omega
 have hA:=λst=>xJ1 gl (ca:=1) (.inl rfl) rule m _ hy hmsz u _ hz n st;have hAe:=wZn rule m u n;have hadd:=vQu (r:=rule) (m:=m);have hmm:∀t,okEs t 4->∀w:List Fm,True:=λ_ _ _=>trivial;have k1:decide (((rule:Nat):Int)=1)=decide (rule=1):=by rw[decide_eq_decide];omega
 have k2:decide (((rule:Nat):Int)=2)=decide (rule=2):=by rw[decide_eq_decide];omega
 have k17:decide (((rule:Nat):Int)=17)=decide (rule=17):=by rw[decide_eq_decide];omega
 have ht:((rule:Nat):Int).tmod 2=((rule%2:Nat):Int):=by rw[Int.tmod_eq_emod_of_nonneg (by omega)];omega
 have ke:decide (((rule%2:Nat):Int)=0)=decide (rule%2=0):=by rw[decide_eq_decide];omega
 have ko:decide (((rule%2:Nat):Int)=1)=decide (rule%2=1):=by rw[decide_eq_decide];omega
 have hone:∀f∈[m],fmB 1 f=true:=λf hf=>by rw[List.mem_singleton.1 hf];exact hm
 have hK:=λl t xs e i hf w t2 ws e2 i2 hw hl st=>vK1 gl l w t t2 xs ws e i e2 i2 hw hf hl st;have hur:yVq (.mk rule s m u n sub)=yJa (λq=>.mk rule ⟨yZn s.l q.l,yZn s.r q.r⟩ m tm0 bE (yZr sub)) (addU rule m) (yZr sub) (zJa rule m):=by simp only[yVq,zXj]
 rw[hur];have htm:IsTm tm0 (.agg [.raw (.bool false),.raw (.string ⟨#[]⟩),.sl ⟨true,.nil,0⟩ []]):=by
  simp only[tm0,IsTm];exact⟨_,_,rfl,.inl rfl,rfl⟩
 refine ICall.intro (c:=cf prog gl [] [(4,[0,1,2,3,5,6,7,8,4,9,10,11,12]),(26,[0,1,2,3,5,6,7,8,4,9,10,11,12])]) func85 rfl (by show _<=151;simp) (by kernel_rfl) ?_;simp only[go_sem,zE,zB,zA,zM,zS,zL,reduceCtorEq,fits,yQ1];have hi1:IsFms [m] [.agg [.raw (.int .u8 op),.raw (.string fn),.sl ta xa,.sl tb xb]]:=⟨_,_,rfl,hy,rfl⟩
 cases q1:decide (rule=1)
 case true =>
  have hrule:=of_decide_eq_true q1;rw[xVj (.inl hrule)] at hal ⊢;obtain rfl:sub=[]:=List.eq_nil_of_length_eq_zero hal.symm;simp only[go_sem,zE,zB,zA,zM,zS,zL,reduceCtorEq,fits,yQ1,decide_true,decide_false,Int.reduceEq,k1,q1];refine (hK s.l tl xl e1 i1 hfl [m] _ _ (.inr rfl) hi1 hone ⟨by omega,by simp⟩ _).mono ?_;rintro _ st ⟨⟨tg1,ys1,rfl,eg1,ig1⟩,rfl⟩;simp only[go_sem,zE,zB,zA,zM,zS,zL,reduceCtorEq,fits,yQ1,decide_true,decide_false,Int.reduceEq,k1,q1];refine (hK s.r tr xr e2 i2 hfr [m] _ _ (.inr rfl) hi1 hone ⟨by omega,by simp⟩ _).mono ?_;rintro _ st ⟨⟨tg2,ys2,rfl,eg2,ig2⟩,rfl⟩;simp only[go_sem,zE,zB,zA,zM,zS,zL,reduceCtorEq,fits,yQ1,decide_true,decide_false,Int.reduceEq,k1,q1];refine yQ0 ⟨?_,rfl⟩;have hn:zJa rule m=⟨[m],[m]⟩:=by rw[hrule];rfl
  simp only[yZr,yJa,hn,IsTr];exact⟨_,_,_,_,_,_,_,_,_,_,_,_,_,_,_,_,rfl,hru,eg1,ig1,eg2,ig2,hy,htm,.inl rfl,rfl⟩
 cases q2:decide (rule=2)
 case true =>
  have hrule:=of_decide_eq_true q2;rw[xVj (.inr hrule)] at hal ⊢;obtain rfl:sub=[]:=List.eq_nil_of_length_eq_zero hal.symm;simp only[go_sem,zE,zB,zA,zM,zS,zL,reduceCtorEq,fits,yQ1,decide_true,decide_false,Int.reduceEq,k1,q1,k2,q2];refine (hK s.l tl xl e1 i1 hfl [m] _ _ (.inr rfl) hi1 hone ⟨by omega,by simp⟩ _).mono ?_;rintro _ st ⟨⟨tg1,ys1,rfl,eg1,ig1⟩,rfl⟩;simp only[go_sem,zE,zB,zA,zM,zS,zL,reduceCtorEq,fits,yQ1,decide_true,decide_false,Int.reduceEq,k1,q1];refine yQ0 ⟨?_,rfl⟩;have hn:zJa rule m=⟨[m],[]⟩:=by rw[hrule];rfl
  simp only[yZr,yJa,hn,xU3,IsTr];exact⟨_,_,_,_,_,_,_,_,_,_,_,_,_,_,_,_,rfl,hru,eg1,ig1,.inl rfl,rfl,hy,htm,.inl rfl,rfl⟩
 have hn:=wU8 rule m hr0 (of_decide_eq_false q1) (of_decide_eq_false q2);generalize hF:(λq:Sq=>Tr.mk rule ⟨yZn s.l q.l,yZn s.r q.r⟩ m tm0 bE (yZr sub))=F at *;cases q17:decide (rule=17)<;>cases qe:decide (rule%2=0)
 all_goals
  have qo:decide (rule%2=1)=!decide (rule%2=0):=by rw[Bool.eq_iff_iff];simp
  rw[qe] at qo;simp only[Bool.not_true,Bool.not_false] at qo;rw[q17,qe,qo] at hn;simp only[Bool.not_true,Bool.not_false,Bool.and_true,Bool.and_false,bFt,if_true,if_false] at hn;simp only[go_sem,zE,zB,zA,zM,zS,zL,reduceCtorEq,fits,yQ1,decide_true,decide_false,Int.reduceEq,k1,q1,k2,q2,k17,q17,ht,ko,qo,ke,qe];refine (hA _).mono ?_;rintro _ st ⟨tga,za,rfl,hta,hza,rfl⟩;rw[hAe] at hza;simp only[go_sem,zE,zB,zA,zM,zS,zL,reduceCtorEq,fits,yQ1,decide_true,decide_false,Int.reduceEq];refine LoopC.ctr sub.length (λk fr st' ds=>(∃tgS ysS,fr 3=.box [.raw (.int .u8 rule),.sl ⟨true,.nil,0⟩ [],.sl ⟨true,.nil,0⟩ [],.raw (.int .u8 op),.raw (.string fn),.sl ta xa,.sl tb xb,.raw (.bool false),.raw (.string ⟨#[]⟩),.sl ⟨true,.nil,0⟩ [],.raw (.string ⟨#[]⟩),.sl tgS ysS]/\IsTrs ((yZr sub).take k) ysS/\own st' tgS k 12 st/\subSt st st')/\(∃t5 x5 t6 x6,∃q:Sq,fr 5=.iv (.sl t5 x5)/\okEs t5 4/\IsFms q.l x5/\fr 6=.iv (.sl t6 x6)/\okEs t6 4/\IsFms q.r x6 /\
   (∀f∈q.l,fmB 1 f=true)/\(∀f∈q.r,fmB 1 f=true)/\q.l.length<=1+64*k/\q.r.length<=1+64*k/\yJa F (addU rule m) (yZr sub) (zJa rule m)=yJa F ((addU rule m).drop k) ((yZr sub).drop k) q)/\fr 1=.box [.raw (.int .u8 rule),.sl tl xl,.sl tr xr,.raw (.int .u8 op),.raw (.string fn),.sl ta xa,.sl tb xb,.raw (.bool v),.raw (.string un),.sl tu xu,.raw (.string n),.sl ts xs]/\fr 2=.box [.raw (.int .u8 0),.sl ⟨true,.nil,0⟩ [],.sl ⟨true,.nil,0⟩ [],.raw (.int .u8 0),.raw (.string ⟨#[]⟩),.sl ⟨true,.nil,0⟩ [],.sl ⟨true,.nil,0⟩ [],.raw (.bool false),.raw (.string ⟨#[]⟩),.sl ⟨true,.nil,0⟩ [],.raw (.string ⟨#[]⟩),.sl ⟨true,.nil,0⟩ []]/\fr 7=.iv (.sl tga za)/\fr 9=.iv (.raw (.int .i64 k))/\ds=[]) ?_ ?_ ?_
  ·simp only[go_sem,zE,zB,zA,zM,zS,zL,reduceCtorEq];refine⟨⟨_,_,rfl,rfl,own.nil _ _ _ _ _,subSt.refl _⟩,⟨_,_,_,_,zJa rule m,rfl,?_,?_,rfl,?_,?_,?_,?_,?_,?_,rfl⟩,rfl⟩
   all_goals try rw[hn]
   all_goals first
    | exact .inl rfl
    | exact .inr rfl
    | exact rfl
    | exact hi1
    | exact hone
    | simp
  ·rintro k fr st1 _ hlt ⟨⟨tgS,ysS,f3,hys,hown,hsub⟩,⟨t5,x5,t6,x6,q,f5,e5,i5,f6,e6,i6,g5,g6,l5,l6,hgo⟩,f1,f2,f7,f9,rfl⟩;obtain⟨a,ha⟩:=yQ3 hlt;have ham:=lMg ha;obtain⟨z,hkz,hzz⟩:=i3.get ha;obtain⟨A,hA1⟩:=yQ3 (show k<(addU rule m).length by omega);obtain⟨y,hky,hyy⟩:=hza.get hA1;obtain⟨A1,A2,A3,A4⟩:=hadd A (lMg hA1);have hua:=zGc ha;have hfm:=xJ6 a (zJ3 hsub0 ham);have hcall:=λst=>IH a ham z hzz (zJ3 hsub0 ham) (by have:=yZ4 ham;omega) st;have hd1:(addU rule m).drop k=A::(addU rule m).drop (k+1):=by rw[List.drop_eq_getElem_cons (by omega),(lGs hA1).2]
   have hd2:(yZr sub).drop k=yVq a::(yZr sub).drop (k+1):=by rw[List.drop_eq_getElem_cons (by rw[yK5];exact hlt),(lGs hua).2]
   rw[hd1,hd2] at hgo;simp only[yJa] at hgo;have hzl:za.length=sub.length:=by rw[hza.len,hal]
   have hysl:ysS.length=k:=by rw[hys.len,List.length_take,yK5];omega
   have htk:(yZr sub).take (k+1)=(yZr sub).take k++[yVq a]:=yQ8 hua;generalize yVq a=ua at *;obtain⟨rule',tl',xl',tr',xr',op',fn',ta',xa',tb',xb',v',un',tu',xu',n',ts',xs',rfl⟩:=yX4 hzz;obtain⟨ta1,xa1,ta2,xa2,rfl,ea1,ia1,ea2,ia2⟩:=hyy;simp only[go_sem,zE,zB,zA,zM,zS,zL,reduceCtorEq,f1,f2,f3,f5,f6,f7,f9,hzl,i3.len,lt_i hlt,yQ2 e3,iNn,hkz,fits];intros;refine (hcall _).mono ?_;rintro r st1 ⟨hr,rfl⟩;have hr0:=hr;obtain⟨ur,us,um,uu,un',usub⟩:=ua;obtain⟨tl5,xl5,tr5,xr5,op5,fn5,ta5,xa5,tb5,xb5,v5,un5,tu5,xu5,ts5,xs5,rfl,hru5,e15,i15,e25,i25,hy5,hz5,e35,i35⟩:=hr.mk;simp only[fmQ1,Tr.sq] at hfm hgo;obtain⟨b1,b2,b3,b4⟩:=hfm;have hL1:=λst=>wWx gl us.l A.l _ _ _ _ e15 i15 ea1 ia1 A3 (λf hf=>by have:=(yXi.1 (b1 f hf)).2.1;omega) ⟨by omega,by omega⟩ st;have hL2:=λst=>wWx gl us.r A.r _ _ _ _ e25 i25 ea2 ia2 A4 (λf hf=>by have:=(yXi.1 (b2 f hf)).2.1;omega) ⟨by omega,by omega⟩ st;have c1:decide ((((yX0 us.l A.l).length:Nat):Int)=((us.l.length:Nat):Int))=!yXn A.l us.l:=by rw[<- xKq,decide_eq_decide];omega
   have c2:decide ((((yX0 us.r A.r).length:Nat):Int)=((us.r.length:Nat):Int))=!yXn A.r us.r:=by rw[<- xKq,decide_eq_decide];omega
   simp only[go_sem,zE,zB,zA,zM,zS,zL,reduceCtorEq,f1,f2,f3,f5,f6,f7,f9,yQ2 hta,iNn,hky,fits];intros;refine (hL1 _).mono ?_;rintro _ st1 ⟨⟨t8,y8,rfl,e8,i8⟩,rfl⟩;simp only[go_sem,zE,zB,zA,zM,zS,zL,reduceCtorEq,f1,f2,f3,f5,f6,f7,f9,yQ2 hta,iNn,hky,fits];intros;refine (hL2 _).mono ?_;rintro _ st1 ⟨⟨t9,y9,rfl,e9,i9⟩,rfl⟩;have n8:(yX0 us.l A.l).length<=64:=Nat.le_trans (List.length_filter_le ..) b3;have n9:(yX0 us.r A.r).length<=64:=Nat.le_trans (List.length_filter_le ..) b4;by_cases hmt:yXn A.l us.l=false/\yXn A.r us.r=false
   ·simp only[hmt.1,hmt.2,Bool.not_false,Bool.and_self,if_true] at hgo c1 c2;simp only[go_sem,zE,zB,zA,zM,zS,zL,reduceCtorEq,f1,f2,f3,f5,f6,f7,f9,i8.len,i15.len,i9.len,i25.len,c1,c2,fits];intros;refine yQb (st':=st) hsub ⟨?_,rfl⟩;rw[hgo];exact hr0
   ·have hne:(!yXn A.l us.l&&!yXn A.r us.r)=false:=by
     cases h1:yXn A.l us.l<;>cases h2:yXn A.r us.r<;>simp_all
    simp only[hne,bFt,if_false] at hgo;have io0:yZk 0 []=true:=rfl;cases m1:yXn A.l us.l<;>cases m2:yXn A.r us.r
    ·exact absurd ⟨m1,m2⟩ hmt
    all_goals
     simp only[m1,m2,Bool.not_true,Bool.not_false] at c1 c2;simp only[go_sem,zE,zB,zA,zM,zS,zL,reduceCtorEq,f1,f2,f3,f5,f6,f7,f9,i8.len,i15.len,i9.len,i25.len,c1,c2,fits,yQ1,io0];intros;refine yZz (n:=0) (S0:=st1) (own.full st1 st1 0 4) rfl i5.len (subSt.refl st1) rfl (yX6 i5) (by simp only;omega) (by omega) λtg2 st4 hown2 hsub4 _=>?_;simp only[go_sem,zE,zB,zA,zM,zS,zL,reduceCtorEq,f1,f2,f3,f5,f6,f7,f9,fits,yQ1,io0];refine yZz hown2 (by simp[i5.len]) i8.len hsub4 rfl (yX6 i8) (by simp only;omega) (by omega) λtg3 st5 hown3 hsub5 _=>?_;simp only[go_sem,zE,zB,zA,zM,zS,zL,reduceCtorEq,f1,f2,f3,f5,f6,f7,f9,fits,yQ1,io0];refine yZz (n:=0) (S0:=st5) (own.full st5 st5 0 4) rfl i6.len (subSt.refl st5) rfl (yX6 i6) (by simp only;omega) (by omega) λtg6 st6 hown6 hsub6 _=>?_;simp only[go_sem,zE,zB,zA,zM,zS,zL,reduceCtorEq,f1,f2,f3,f5,f6,f7,f9,fits,yQ1,io0];refine yZz hown6 (by simp[i6.len]) i9.len hsub6 rfl (yX6 i9) (by simp only;omega) (by omega) λtg7 st7 hown7 hsub7 _=>?_;simp only[go_sem,zE,zB,zA,zM,zS,zL,reduceCtorEq,f1,f2,f3,f5,f6,f7,f9,fits,yQ1,io0];refine yZb (hown.mono λg hg _=>hsub7 g _ (hsub5 g _ hg)) hysl (hsub.trans (hsub5.trans hsub7)) rfl (by simp[fits,IV.one]) (by simp only;omega) (by omega) λtg8 st8 hown8 hsub8 _ _=>?_;simp only[go_sem,zE,zB,zA,zM,zS,zL,reduceCtorEq,f1,f2,f3,f5,f6,f7,f9,fits,yQa hlt (show sub.length<=281474976710656 by omega)];have gl8:∀ {l w:List Fm},(∀f∈l,fmB 1 f=true)->∀f∈yX0 l w,fmB 1 f=true:=λh f hf=>h f (List.mem_filter.1 hf).1;refine⟨⟨_,_,rfl,?_,hown8,hsub8⟩,⟨_,_,_,_,⟨q.l++yX0 us.l A.l,q.r++yX0 us.r A.r⟩,rfl,hown3.es,i5.append i8,rfl,hown7.es,i6.append i9,?_,?_,?_,?_,hgo⟩⟩
     ·rw[htk];exact hys.append ⟨_,[],rfl,hr0,rfl⟩
     ·exact λf hf=>(List.mem_append.1 hf).elim (g5 f) (gl8 b1 f)
     ·exact λf hf=>(List.mem_append.1 hf).elim (g6 f) (gl8 b2 f)
     ·simp only[lLa];omega
     ·simp only[lLa];omega
  ·rintro fr st1 _ ⟨⟨tgS,ysS,f3,hys,hown,hsub⟩,⟨t5,x5,t6,x6,q,f5,e5,i5,f6,e6,i6,g5,g6,l5,l6,hgo⟩,f1,f2,f7,f9,rfl⟩;have et:(yZr sub).take sub.length=yZr sub:=by rw[<- yK5 sub,lTl]
   have ed:(yZr sub).drop sub.length=[]:=by rw[<- yK5 sub,List.drop_length]
   rw[et] at hys;rw[ed] at hgo;have hgo:yJa F (addU rule m) (yZr sub) (zJa rule m)=F q:=by rw[hgo];cases (addU rule m).drop sub.length<;>rfl
   have hzl:za.length=sub.length:=by rw[hza.len,hal]
   simp only[go_sem,zE,zB,zA,zM,zS,zL,reduceCtorEq,f1,f2,f3,f5,f6,f7,f9,hzl,yQk (nLi _),fits];intros;refine (hK s.l tl xl e1 i1 hfl q.l _ _ e5 i5 g5 ⟨by omega,by omega⟩ _).mono ?_;rintro _ _ ⟨⟨tg1,ys1,rfl,eg1,ig1⟩,rfl⟩;simp only[go_sem,zE,zB,zA,zM,zS,zL,reduceCtorEq,f1,f2,f3,f5,f6,f7,f9,fits];refine (hK s.r tr xr e2 i2 hfr q.r _ _ e6 i6 g6 ⟨by omega,by omega⟩ _).mono ?_;rintro _ _ ⟨⟨tg2,ys2,rfl,eg2,ig2⟩,rfl⟩;simp only[go_sem,zE,zB,zA,zM,zS,zL,reduceCtorEq,f1,f2,f3,f5,f6,f7,f9,fits];refine yQb (st':=st) hsub ⟨?_,rfl⟩;rw[hgo,<- hF];simp only[IsTr];exact⟨_,_,_,_,_,_,_,_,_,_,_,_,_,_,_,_,rfl,hru,eg1,ig1,eg2,ig2,hy,htm,hown.es,hys⟩
theorem wW4:∀(k:Nat)(t:Tr),SizeOf.sizeOf t<k->ruC gl t
 | 0,t,h=>by omega
 | k+1,.mk r sq f u n sub,h=>wGg gl r sq f u n sub (λa ha=>wW4 k a (by
   have:=lSm ha;simp at h;omega))
