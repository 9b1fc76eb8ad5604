/-  -/
import Derived.Test.YtebjhmlmdjnkgaaGreatDoorQA
import Derived.Lib.Bytealg
import Derived.Shelf.Abstract
import Derived.Test.YtebjhmlmdjnkgaaGreatDoorLA
set_option linter.all false
open Nat renaming reduceEqDiff → zE,reduceBEq → zB,reduceAdd → zA,reduceMul → zM,reduceSub → zS,reduceLeDiff → zL
namespace Go.Proofs.Tryz
open Go Go.Iv
set_option maxRecDepth 4000
variable (gl:Nat->Option IV)
def IsHf (h:Bool×Fm)(x:IV):Prop:=∃(o:Int) (n:ByteArray) (t:Tag) (xs:List IV) (t':Tag) (ys:List IV),x=.agg [.raw (.bool h.1),.raw (.int .u8 o),.raw (.string n),.sl t xs,.sl t' ys]/\IsFm h.2 (.agg [.raw (.int .u8 o),.raw (.string n),.sl t xs,.sl t' ys])
def IsHfs:List (Bool×Fm)->List IV->Prop
 | [],xs=>xs=[]
 | a::l,xs=>∃y ys,xs=y::ys/\IsHf a y/\IsHfs l ys
def IsHss:List (List (Bool×Fm))->List IV->Prop
 | [],xs=>xs=[]
 | a::l,xs=>∃t zs ys,xs=.sl t zs::ys/\okEs t 5/\IsHfs a zs/\IsHss l ys
theorem IsHfs.len:∀ {l:List (Bool×Fm)}{xs:List IV},IsHfs l xs->xs.length=l.length
 | [],_,rfl=>rfl
 | a::l,_,⟨y,ys,rfl,_,h⟩=>by simp[IsHfs.len h]
theorem IsHss.len:∀ {l:List (List (Bool×Fm))}{xs:List IV},IsHss l xs->xs.length=l.length
 | [],_,rfl=>rfl
 | a::l,_,⟨_,_,ys,rfl,_,_,h⟩=>by simp[IsHss.len h]
theorem IsHfs.get:∀ {l:List (Bool×Fm)}{xs:List IV}{k:Nat}{a:Bool×Fm},IsHfs l xs->l[k]?=some a->∃x,xs[k]?=some x/\IsHf a x
 | [],xs,k,a,h,hk=>by simp at hk
 | b::l,_,0,a,⟨y,ys,rfl,hy,h⟩,hk=>by simp at hk;subst hk;exact⟨y,rfl,hy⟩
 | b::l,_,k+1,a,⟨y,ys,rfl,hy,h⟩,hk=>by simpa using IsHfs.get h (by simpa using hk)
theorem IsHss.get:∀ {l:List (List (Bool×Fm))}{xs:List IV}{k:Nat}{a:List (Bool×Fm)},IsHss l xs->l[k]?=some a->∃t zs,xs[k]?=some (.sl t zs)/\okEs t 5/\IsHfs a zs
 | [],xs,k,a,h,hk=>by simp at hk
 | b::l,_,0,a,⟨t,zs,ys,rfl,ht,hz,h⟩,hk=>by simp at hk;subst hk;exact⟨t,zs,rfl,ht,hz⟩
 | b::l,_,k+1,a,⟨t,zs,ys,rfl,ht,hz,h⟩,hk=>by simpa using IsHss.get h (by simpa using hk)
theorem hf1 {h:Bool×Fm}{x:IV}(h1:IsHf h x):IsHfs [h] [x]:=⟨_,_,rfl,h1,rfl⟩
theorem hf2 {h h':Bool×Fm}{x x':IV}(h1:IsHf h x)(h2:IsHf h' x'):IsHfs [h,h'] [x,x']:=⟨_,_,rfl,h1,hf1 h2⟩
theorem hs1 {a:List (Bool×Fm)}{t:Tag}{zs:List IV}(ht:okEs t 5)(h:IsHfs a zs):IsHss [a] [.sl t zs]:=⟨_,_,_,rfl,ht,h,rfl⟩
theorem hs2 {a a':List (Bool×Fm)}{t t':Tag}{zs zs':List IV}(ht:okEs t 5)(h:IsHfs a zs)(ht':okEs t' 5)(h':IsHfs a' zs'):IsHss [a,a'] [.sl t zs,.sl t' zs']:=⟨_,_,_,rfl,ht,h,hs1 ht' h'⟩
theorem zXe (f:Fm)(x:IV)(hx:IsFm f x)(st:ISt):ICall prog gl 155 [x] st (λr st'=>IsHf (true,f) r/\st'=st):=by
 have hx0:=hx;obtain⟨o1,n1,t1,x1,t2,x2,rfl⟩:=hx.agg;refine iI func155 ?_;simp only[go_sem,zE,zA,zL,fits];exact yQ0 ⟨⟨_,_,_,_,_,_,rfl,hx0⟩,rfl⟩
theorem no_c (f:Fm)(x:IV)(hx:IsFm f x)(st:ISt):ICall prog gl 153 [x] st (λr st'=>IsHf (false,f) r/\st'=st):=by
 have hx0:=hx;obtain⟨o1,n1,t1,x1,t2,x2,rfl⟩:=hx.agg;refine iI func153 ?_;simp only[go_sem,zE,zA,zL,fits];exact yQ0 ⟨⟨_,_,_,_,_,_,rfl,hx0⟩,rfl⟩
theorem wVt (a b:Fm)(x y:IV)(hx:IsFm a x)(hy:IsFm b y)(st:ISt):ICall prog gl 163 [x,y] st (λr st'=>IsFm (impF a b) r/\st'=st):=by
 have h1:IsFms [a,b] [x,y]:=⟨_,_,rfl,hx,_,_,rfl,hy,rfl⟩
 obtain⟨o5,n5,t5,x5,t6,x6,rfl⟩:=hx.agg;obtain⟨o7,n7,t7,x7,t8,x8,rfl⟩:=hy.agg;refine iI func163 ?_;simp only[go_sem,zE,zA,zM,zL,fits,yQe];exact yQ0 ⟨⟨_,_,_,_,rfl,by decide,.inl rfl,rfl,.inr rfl,h1⟩,rfl⟩
def zKb (id:Nat)(F:Fm->Fm->List (List (Bool×Fm))):Prop:=∀(a b:Fm) (x y:IV) (_:IsFm a x) (_:IsFm b y) (st:ISt),
 ICall prog gl id [x,y] st (λr st'=>∃tg xs,r=.sl tg xs/\okEs tg 1/\IsHss (F a b) xs/\st'=st)
theorem vVz:zKb gl 152 (λa b=>[[(false,a)]]):=by
 intro a b x y hx hy st;have hx0:=hx;have hy0:=hy;obtain⟨o1,n1,t1,x1,t2,x2,rfl⟩:=hx.agg;obtain⟨o3,n3,t3,x3,t4,x4,rfl⟩:=hy.agg;refine iI func152 ?_;simp only[go_sem,zE,zA,zL];refine (no_c gl _ _ hx0 _).mono ?_;rintro r _ ⟨h1,rfl⟩;have h1':=h1;obtain⟨_,_,_,_,_,_,rfl,_⟩:=h1;simp only[go_sem,zA,zM,zL,fits,yQ1];exact yQ0 ⟨_,_,rfl,.inr rfl,hs1 (.inr rfl) (hf1 h1'),rfl⟩
theorem vVy:zKb gl 154 (λa b=>[[(true,a)]]):=by
 intro a b x y hx hy st;have hx0:=hx;have hy0:=hy;obtain⟨o1,n1,t1,x1,t2,x2,rfl⟩:=hx.agg;obtain⟨o3,n3,t3,x3,t4,x4,rfl⟩:=hy.agg;refine iI func154 ?_;simp only[go_sem,zE,zA,zL];refine (zXe gl _ _ hx0 _).mono ?_;rintro r _ ⟨h1,rfl⟩;have h1':=h1;obtain⟨_,_,_,_,_,_,rfl,_⟩:=h1;simp only[go_sem,zA,zM,zL,fits,yQ1];exact yQ0 ⟨_,_,rfl,.inr rfl,hs1 (.inr rfl) (hf1 h1'),rfl⟩
theorem vVx:zKb gl 156 (λa b=>[[(true,a),(true,b)]]):=by
 intro a b x y hx hy st;have hx0:=hx;have hy0:=hy;obtain⟨o1,n1,t1,x1,t2,x2,rfl⟩:=hx.agg;obtain⟨o3,n3,t3,x3,t4,x4,rfl⟩:=hy.agg;refine ICall.intro (c:=cf prog gl [] [(1,[0,2,1,3,4,5,6])]) func156 rfl (by show _<=11;simp) (by kernel_rfl) ?_;simp only[go_sem,zE,zA,zL];refine (zXe gl _ _ hx0 _).mono ?_;rintro r1 _ ⟨h1,rfl⟩;have h1':=h1;obtain⟨_,_,_,_,_,_,rfl,_⟩:=h1;simp only[go_sem,zE,zA];refine (zXe gl _ _ hy0 _).mono ?_;rintro r2 _ ⟨h2,rfl⟩;have h2':=h2;obtain⟨_,_,_,_,_,_,rfl,_⟩:=h2;simp only[go_sem,zE,zA,zM,zL,fits,yQ1,yQe];exact yQ0 ⟨_,_,rfl,.inr rfl,hs1 (.inr rfl) (hf2 h1' h2'),rfl⟩
theorem vVw:zKb gl 157 (λa b=>[[(false,a)],[(false,b)]]):=by
 intro a b x y hx hy st;have hx0:=hx;have hy0:=hy;obtain⟨o1,n1,t1,x1,t2,x2,rfl⟩:=hx.agg;obtain⟨o3,n3,t3,x3,t4,x4,rfl⟩:=hy.agg;refine ICall.intro (c:=cf prog gl [] [(1,[0,3,1,2,4,5,6,7])]) func157 rfl (by show _<=12;simp) (by kernel_rfl) ?_;simp only[go_sem,zE,zA,zL];refine (no_c gl _ _ hx0 _).mono ?_;rintro r1 _ ⟨h1,rfl⟩;have h1':=h1;obtain⟨_,_,_,_,_,_,rfl,_⟩:=h1;simp only[go_sem,zE,zA,zM,zL,fits,yQ1];refine (no_c gl _ _ hy0 _).mono ?_;rintro r2 _ ⟨h2,rfl⟩;have h2':=h2;obtain⟨_,_,_,_,_,_,rfl,_⟩:=h2;simp only[go_sem,zE,zA,zM,zL,fits,yQ1,yQe];exact yQ0 ⟨_,_,rfl,.inr rfl,hs2 (.inr rfl) (hf1 h1') (.inr rfl) (hf1 h2'),rfl⟩
theorem vVv:zKb gl 158 (λa b=>[[(true,a)],[(true,b)]]):=by
 intro a b x y hx hy st;have hx0:=hx;have hy0:=hy;obtain⟨o1,n1,t1,x1,t2,x2,rfl⟩:=hx.agg;obtain⟨o3,n3,t3,x3,t4,x4,rfl⟩:=hy.agg;refine ICall.intro (c:=cf prog gl [] [(1,[0,3,1,2,4,5,6,7])]) func158 rfl (by show _<=12;simp) (by kernel_rfl) ?_;simp only[go_sem,zE,zA,zL];refine (zXe gl _ _ hx0 _).mono ?_;rintro r1 _ ⟨h1,rfl⟩;have h1':=h1;obtain⟨_,_,_,_,_,_,rfl,_⟩:=h1;simp only[go_sem,zE,zA,zM,zL,fits,yQ1];refine (zXe gl _ _ hy0 _).mono ?_;rintro r2 _ ⟨h2,rfl⟩;have h2':=h2;obtain⟨_,_,_,_,_,_,rfl,_⟩:=h2;simp only[go_sem,zE,zA,zM,zL,fits,yQ1,yQe];exact yQ0 ⟨_,_,rfl,.inr rfl,hs2 (.inr rfl) (hf1 h1') (.inr rfl) (hf1 h2'),rfl⟩
theorem vVu:zKb gl 159 (λa b=>[[(false,a),(false,b)]]):=by
 intro a b x y hx hy st;have hx0:=hx;have hy0:=hy;obtain⟨o1,n1,t1,x1,t2,x2,rfl⟩:=hx.agg;obtain⟨o3,n3,t3,x3,t4,x4,rfl⟩:=hy.agg;refine ICall.intro (c:=cf prog gl [] [(1,[0,2,1,3,4,5,6])]) func159 rfl (by show _<=11;simp) (by kernel_rfl) ?_;simp only[go_sem,zE,zA,zL];refine (no_c gl _ _ hx0 _).mono ?_;rintro r1 _ ⟨h1,rfl⟩;have h1':=h1;obtain⟨_,_,_,_,_,_,rfl,_⟩:=h1;simp only[go_sem,zE,zA];refine (no_c gl _ _ hy0 _).mono ?_;rintro r2 _ ⟨h2,rfl⟩;have h2':=h2;obtain⟨_,_,_,_,_,_,rfl,_⟩:=h2;simp only[go_sem,zE,zA,zM,zL,fits,yQ1,yQe];exact yQ0 ⟨_,_,rfl,.inr rfl,hs1 (.inr rfl) (hf2 h1' h2'),rfl⟩
theorem vVt:zKb gl 160 (λa b=>[[(false,a)],[(true,b)]]):=by
 intro a b x y hx hy st;have hx0:=hx;have hy0:=hy;obtain⟨o1,n1,t1,x1,t2,x2,rfl⟩:=hx.agg;obtain⟨o3,n3,t3,x3,t4,x4,rfl⟩:=hy.agg;refine ICall.intro (c:=cf prog gl [] [(1,[0,3,1,2,4,5,6,7])]) func160 rfl (by show _<=12;simp) (by kernel_rfl) ?_;simp only[go_sem,zE,zA,zL];refine (no_c gl _ _ hx0 _).mono ?_;rintro r1 _ ⟨h1,rfl⟩;have h1':=h1;obtain⟨_,_,_,_,_,_,rfl,_⟩:=h1;simp only[go_sem,zE,zA,zM,zL,fits,yQ1];refine (zXe gl _ _ hy0 _).mono ?_;rintro r2 _ ⟨h2,rfl⟩;have h2':=h2;obtain⟨_,_,_,_,_,_,rfl,_⟩:=h2;simp only[go_sem,zE,zA,zM,zL,fits,yQ1,yQe];exact yQ0 ⟨_,_,rfl,.inr rfl,hs2 (.inr rfl) (hf1 h1') (.inr rfl) (hf1 h2'),rfl⟩
theorem vVs:zKb gl 161 (λa b=>[[(true,a),(false,b)]]):=by
 intro a b x y hx hy st;have hx0:=hx;have hy0:=hy;obtain⟨o1,n1,t1,x1,t2,x2,rfl⟩:=hx.agg;obtain⟨o3,n3,t3,x3,t4,x4,rfl⟩:=hy.agg;refine ICall.intro (c:=cf prog gl [] [(1,[0,2,1,3,4,5,6])]) func161 rfl (by show _<=11;simp) (by kernel_rfl) ?_;simp only[go_sem,zE,zA,zL];refine (zXe gl _ _ hx0 _).mono ?_;rintro r1 _ ⟨h1,rfl⟩;have h1':=h1;obtain⟨_,_,_,_,_,_,rfl,_⟩:=h1;simp only[go_sem,zE,zA];refine (no_c gl _ _ hy0 _).mono ?_;rintro r2 _ ⟨h2,rfl⟩;have h2':=h2;obtain⟨_,_,_,_,_,_,rfl,_⟩:=h2;simp only[go_sem,zE,zA,zM,zL,fits,yQ1,yQe];exact yQ0 ⟨_,_,rfl,.inr rfl,hs1 (.inr rfl) (hf2 h1' h2'),rfl⟩
theorem vVr:zKb gl 162 (λa b=>[[(true,impF a b),(true,impF b a)]]):=by
 intro a b x y hx hy st;have hx0:=hx;have hy0:=hy;obtain⟨o1,n1,t1,x1,t2,x2,rfl⟩:=hx.agg;obtain⟨o3,n3,t3,x3,t4,x4,rfl⟩:=hy.agg;refine ICall.intro (c:=cf prog gl [] [(1,[0,1,4,5,2,3,6,7,8,9,10])]) func162 rfl (by show _<=15;simp) (by kernel_rfl) ?_;simp only[go_sem,zE,zA,zL];refine (wVt gl _ _ _ _ hx0 hy0 _).mono ?_;rintro _ _ ⟨hi,rfl⟩;have hi0:=hi;obtain⟨o5,n5,t5,x5,t6,x6,rfl⟩:=hi.agg;simp only[go_sem,zA];refine (zXe gl _ _ hi0 _).mono ?_;rintro r1 _ ⟨h1,rfl⟩;have h1':=h1;obtain⟨_,_,_,_,_,_,rfl,_⟩:=h1;simp only[go_sem,zE,zA];refine (wVt gl _ _ _ _ hy0 hx0 _).mono ?_;rintro _ _ ⟨hj,rfl⟩;have hj0:=hj;obtain⟨o7,n7,t7,x7,t8,x8,rfl⟩:=hj.agg;simp only[go_sem,zA];refine (zXe gl _ _ hj0 _).mono ?_;rintro r2 _ ⟨h2,rfl⟩;have h2':=h2;obtain⟨_,_,_,_,_,_,rfl,_⟩:=h2;simp only[go_sem,zE,zA,zM,zL,fits,yQ1,yQe];exact yQ0 ⟨_,_,rfl,.inr rfl,hs1 (.inr rfl) (hf2 h1' h2'),rfl⟩
theorem vQs:zKb gl 164 (λa b=>[[(true,a),(false,b)],[(true,b),(false,a)]]):=by
 intro a b x y hx hy st;have hx0:=hx;have hy0:=hy;obtain⟨o1,n1,t1,x1,t2,x2,rfl⟩:=hx.agg;obtain⟨o3,n3,t3,x3,t4,x4,rfl⟩:=hy.agg;refine ICall.intro (c:=cf prog gl [] [(1,[0,2,5,7,1,3,4,6,8,9,10,11])]) func164 rfl (by show _<=16;simp) (by kernel_rfl) ?_;simp only[go_sem,zE,zA,zL];refine (zXe gl _ _ hx0 _).mono ?_;rintro r1 _ ⟨h1,rfl⟩;have h1':=h1;obtain⟨_,_,_,_,_,_,rfl,_⟩:=h1;simp only[go_sem,zE,zA];refine (no_c gl _ _ hy0 _).mono ?_;rintro r2 _ ⟨h2,rfl⟩;have h2':=h2;obtain⟨_,_,_,_,_,_,rfl,_⟩:=h2;simp only[go_sem,zE,zA,zM,zL,fits,yQe];refine (zXe gl _ _ hy0 _).mono ?_;rintro r3 _ ⟨h3,rfl⟩;have h3':=h3;obtain⟨_,_,_,_,_,_,rfl,_⟩:=h3;simp only[go_sem,zE,zA];refine (no_c gl _ _ hx0 _).mono ?_;rintro r4 _ ⟨h4,rfl⟩;have h4':=h4;obtain⟨_,_,_,_,_,_,rfl,_⟩:=h4;simp only[go_sem,zE,zA,zM,zL,fits,yQe];exact yQ0 ⟨_,_,rfl,.inr rfl,hs2 (.inr rfl) (hf2 h1' h2') (.inr rfl) (hf2 h3' h4'),rfl⟩
def zKo (b:Bool)(o:Int):Nat :=
 if o=3 then (if b then 152 else 154) else if o=4 then (if b then 156 else 157)
 else if o=5 then (if b then 158 else 159) else if o=6 then (if b then 160 else 161)
 else if o=7 then (if b then 162 else 164) else if o=10 then (if b then 165 else 166)
 else (if b then 167 else 168)
def sgV (b:Bool)(o:Int):Value:=.agg #[.bool b,.int .u8 o]
def xVt (r:Nat×Nat)(id:Nat):IV:=.agg [.raw (.int .u8 r.1),.raw (.int .i64 r.2),.fn (.func id) [] []]
def rowZ:IV:=.agg [.raw (.int .u8 0),.raw (.int .i64 0),.raw .nilFunc]
theorem zX8 (b b':Bool)(o o':Int)(v:IV):∀es:List (Value×IV),yXl (sgV b o) (updI (sgV b' o') v es)=if b=b'/\o=o' then some v else yXl (sgV b o) es
 | []=>by
  have e:yKs (sgV b o) (sgV b' o')=(decide (b=b')&&decide (o=o')):=rfl;simp only[updI,yXl,e];by_cases h:b=b'/\o=o'<;>simp[h]
 | (x,u)::es=>by
  have e:yKs (sgV b o) (sgV b' o')=(decide (b=b')&&decide (o=o')):=rfl;simp only[updI];by_cases hk:yKs (sgV b' o') x=true
  ·rw[if_pos hk];have hx:yKs (sgV b o) x=(decide (b=b')&&decide (o=o')):=by
    cases x<;>simp only[sgV,yKs,bFt] at hk ⊢;rename_i c;obtain⟨l⟩:=c
    match l,hk with
    | [.bool a,.int _ n],hk =>
     simp only[xYx,bAt,dTe] at hk ⊢;rw[hk.1,hk.2]
   simp only[yXl,e,hx];by_cases h:b=b'/\o=o'
   ·simp[h]
   ·have:(decide (b=b')&&decide (o=o'))=false:=by
     rw[Bool.eq_false_iff,ne_eq,bAt,dTe,dTe];exact h
    rw[this,if_neg h];rfl
  ·rw[if_neg hk];simp only[yXl];rw[zX8 b b' o o' v es];by_cases h:b=b'/\o=o'
   ·obtain⟨rfl,rfl⟩:=h;simp[hk]
   ·simp[h]
def kB (k:Nat):Bool:=k%2 == 0
def kO (k:Nat):Nat:=[3,3,4,4,5,5,6,6,7,7,10,10,11,11].getD k 0
def kR (k:Nat):Nat×Nat:=(rowT (kB k) (kO k)).getD (0,0)
def kIV (k:Nat):IV:=.agg [.raw (.bool (kB k)),.raw (.int .u8 (kO k))]
def vIV (k:Nat):IV:=xVt (kR k) (zKo (kB k) (kO k))
def opT (i:Nat):Oper :=
 if i=0 then ⟨some 1,.makeMap 55 none,55, "tableau.go:89",#[],none⟩
 else if i=43 then ⟨some 30,.move (.tmp 1),55, "tableau.go:89",⟨(List.range 43).map λj=>⟨j,.data⟩⟩,none⟩
 else if i=44 then ⟨some 0,.assign (.tmp 30),55, "tableau.go:89",⟨⟨43,.data⟩::(List.range 44).map λj=>⟨j,.phase⟩⟩,none⟩
 else if i%3=1 then ⟨some (2+2*(i / 3)),.build 244 ⟨[(0,.const (.bool (kB (i / 3)))),(1,.const (.int .u8 (kO (i / 3))))]⟩,244, "tableau.go:89",#[],none⟩
 else if i%3=2 then ⟨some (3+2*(i / 3)),.build 236 ⟨[(0,.const (.int .u8 (kR (i / 3)).1)),(1,.const (.int .i64 (kR (i / 3)).2)),(2,.func (zKo (kB (i / 3)) (kO (i / 3))))]⟩,236, "tableau.go:89",#[],none⟩
 else ⟨none,.insert 55 (.tmp 1) (.tmp (2+2*(i / 3-1))) (.tmp (3+2*(i / 3-1))),0, "tableau.go:89",⟨[⟨0,.data⟩,⟨i-2,.data⟩,⟨i-1,.data⟩]⟩,none⟩
def opsT:Array Oper:=⟨(List.range 45).map opT⟩
def zKe (b i:Nat):Option (Nat×IV) :=
 if i=0 then some (1,.raw (.map (some b))) else if i=43 then some (30,.raw (.map (some b))) else if i=44 then some (0,.raw (.map (some b)))
 else if i%3=1 then some (2+2*(i / 3),kIV (i / 3)) else if i%3=2 then some (3+2*(i / 3),vIV (i / 3)) else none
theorem yU8 {b i j d d':Nat}{v v':IV}(hi:i<45)(hj:j<45)(h:zKe b i=some (d,v))(h':zKe b j=some (d',v'))(hne:i≠j):d≠d':=by
 unfold zKe at h h'
 repeat' split at h
 all_goals first|(cases h;done)|skip
 all_goals (repeat' split at h')
 all_goals first|(cases h';done)|skip
 all_goals (cases h;cases h';omega)
@[go_sem] theorem uVz:mapI prog 55=some (.sg,rowZ):=by kernel_rfl
def vWe (listed:Array Bool)(es:List (Value×IV)):Prop :=
 (∀k,k<14->yXl (sgV (kB k) (kO k)) es=if listed.getD (3+3*k) false=true then some (vIV k) else none)/\∀b o,rowT b o=none->yXl (sgV b o) es=none
def TabJ (st:ISt)(listed:Array Bool):Kt:=λ_ fr st' ds=>ds=[]/\∃b es,
 ((listed.getD 0 false=true/\st b=none/\st'=st.put b (some (.map .sg es))/\vWe listed es) \/
  (listed.getD 0 false=false/\st'=st/\listed.getD 43 false=false/\listed.getD 44 false=false/\∀k,k<14->listed.getD (3+3*k) false=false)) /\
 ∀i,i<45->listed.getD i false=true->∀d v,zKe b i=some (d,v)->fr d=.iv v
theorem yQo {l:Array Bool}{i j:Nat}(hi:i<l.size):(l.setIfInBounds i true).getD j false=if i=j then true else l.getD j false:=by
 by_cases h:i=j
 ·subst h;rw[if_pos rfl];simp[hi]
 ·rw[if_neg h,getD_set_ne false h]
theorem yQ5 (c:Cf)(ops:List Oper)(dst:Option Nat)(op:Op)(ty:TypeId)(pos:String)(aft:Array Edge)(K:Kt)(ad:Ad)(fr:Fr)(st:ISt)(ds:List Dfd):yY6 c ops ⟨dst,op,ty,pos,aft,none⟩ K ad fr st ds=vcOp c dst op K ad fr st ds:=rfl
theorem xGw {ops:Array Oper}{listed:Array Bool}(he:∀i,i<ops.size->∀e∈(opAt ops i).after,e.on<i)(hz:listed.size=ops.size)(hr:Region.ready .any ops listed=[]):∀i,i<ops.size->listed.getD i false=true:=by
 intro i
 induction i using Nat.strongRecOn with
 | _ i ih =>
  intro hi;have getD_tf:listed.getD i false=listed.getD i true:=by
   rw[Array.getD_eq_getD_getElem?,Array.getD_eq_getD_getElem?,Array.getElem?_eq_getElem (by rw[hz];exact hi)];rfl
  refine Classical.byContradiction λhc=>?_;have:i∈Region.ready .any ops listed:=mem_ready.2 ⟨by rw[<- getD_tf];simpa using hc,_,yZu hi,λe hem _=>ih e.on (he i hi e hem) (Nat.lt_trans (he i hi e hem) hi)⟩;rw[hr] at this;cases this
def vQ9 (ops:Array Oper):Bool:=(List.range ops.size).all λi=>(opAt ops i).after.toList.all λe=>decide (e.on<i)
theorem zXy {ops:Array Oper}{listed:Array Bool}(h:vQ9 ops=true)(hz:listed.size=ops.size)(hr:Region.ready .any ops listed=[]):∀i,i<ops.size->listed.getD i false=true :=
 xGw (λi hi e he=>of_decide_eq_true (List.all_eq_true.1 (List.all_eq_true.1 h i (List.mem_range.2 hi)) e (by simpa using he))) hz hr
theorem xU7 {i:Nat}(hi:i<45):opAt opsT i=opT i:=by
 unfold opAt opsT;rw[Array.getD_eq_getD_getElem?];simp[hi]
def zZn (es:List (Value×IV)):Prop:=∀b o,yXl (sgV b o) es=(rowT b o).map λr=>xVt r (zKo b o)
theorem wXp {listed:Array Bool}{es:List (Value×IV)}(hl:∀k,k<14->listed.getD (3+3*k) false=true)(h:vWe listed es):zZn es:=by
 intro b o;cases hr:rowT b o with
 | none=>exact h.2 b o hr
 | some r =>
  obtain⟨k,hk,rfl,rfl⟩:∃k,k<14/\b=kB k/\o=kO k:=by
   have ho:o=3\/o=4\/o=5\/o=6\/o=7\/o=10\/o=11:=by
    refine Classical.byContradiction λhc=>?_;unfold rowT at hr
    repeat (rw[if_neg (by omega)] at hr)
    cases hr
   rcases ho with rfl|rfl|rfl|rfl|rfl|rfl|rfl<;>cases b
   ·exact⟨1,by decide,rfl,rfl⟩
   ·exact⟨0,by decide,rfl,rfl⟩
   ·exact⟨3,by decide,rfl,rfl⟩
   ·exact⟨2,by decide,rfl,rfl⟩
   ·exact⟨5,by decide,rfl,rfl⟩
   ·exact⟨4,by decide,rfl,rfl⟩
   ·exact⟨7,by decide,rfl,rfl⟩
   ·exact⟨6,by decide,rfl,rfl⟩
   ·exact⟨9,by decide,rfl,rfl⟩
   ·exact⟨8,by decide,rfl,rfl⟩
   ·exact⟨11,by decide,rfl,rfl⟩
   ·exact⟨10,by decide,rfl,rfl⟩
   ·exact⟨13,by decide,rfl,rfl⟩
   ·exact⟨12,by decide,rfl,rfl⟩
  rw[h.1 k hk,if_pos (hl k hk),vIV,kR,hr];rfl
theorem yJo {N:Nat}{L:Nat->Option (Nat×IV)}(hne:∀ {i j d d' v v'},i<N->j<N->L i=some (d,v)->L j=some (d',v')->i≠j->d≠d'){i d:Nat}{v:IV}{listed:Array Bool}{fr:Fr}(hz:listed.size=N)(hi:i<N)(hs:L i=some (d,v))(h:∀j,j<N->listed.getD j false=true->∀d v,L j=some (d,v)->fr d=.iv v) :
  ∀j,j<N->(listed.setIfInBounds i true).getD j false=true->∀d' v',L j=some (d',v')->fr.put d (.iv v) d'=.iv v':=by
 intro j hj hl d' v' hs';rw[Fr.put_apply];by_cases hij:i=j
 ·subst hij;rw[hs] at hs';cases hs';rw[if_pos rfl]
 ·rw[if_neg (hne hi hj hs hs' hij).symm];rw[yQo (by omega),if_neg hij] at hl;exact h j hj hl d' v' hs'
theorem k_lt {k:Nat}(hk:k<14):kO k<=255:=by
 rcases (show k=0\/k=1\/k=2\/k=3\/k=4\/k=5\/k=6\/k=7\/k=8\/k=9\/k=10\/k=11\/k=12\/k=13 by omega) with rfl|rfl|rfl|rfl|rfl|rfl|rfl|rfl|rfl|rfl|rfl|rfl|rfl|rfl<;>decide
theorem wUr {k j:Nat}(hk:k<14)(hj:j<14)(h1:kB k=kB j)(h2:kO k=kO j):k=j:=by
 have key:((List.range 14).all λk=>(List.range 14).all λj=>!(kB k == kB j&&kO k == kO j) || decide (k=j))=true:=by decide
 have:=List.all_eq_true.1 (List.all_eq_true.1 key k (List.mem_range.2 hk)) j (List.mem_range.2 hj);rw[h1,h2] at this;simpa using this
theorem uWg {k:Nat}(hk:k<14):∃r,rowT (kB k) (kO k)=some r:=by
 rcases (show k=0\/k=1\/k=2\/k=3\/k=4\/k=5\/k=6\/k=7\/k=8\/k=9\/k=10\/k=11\/k=12\/k=13 by omega) with rfl|rfl|rfl|rfl|rfl|rfl|rfl|rfl|rfl|rfl|rfl|rfl|rfl|rfl<;>exact⟨_,rfl⟩
theorem xJm {b k:Nat}(hk:k<14):zKe b (1+3*k)=some (2+2*k,kIV k):=by
 unfold zKe;rw[if_neg (by omega),if_neg (by omega),if_neg (by omega),if_pos (by omega),show (1+3*k) / 3=k by omega]
theorem xJl {b k:Nat}(hk:k<14):zKe b (2+3*k)=some (3+2*k,vIV k):=by
 unfold zKe;rw[if_neg (by omega),if_neg (by omega),if_neg (by omega),if_neg (by omega),if_pos (by omega),show (2+3*k) / 3=k by omega]
theorem yXw (n i:Nat):(Array.replicate n false).getD i false=false:=by
 rw[Array.getD_eq_getD_getElem?,Array.getElem?_replicate];split<;>rfl
theorem xYs (st:ISt):ICall prog gl 96 [] st (λr st'=>∃b es,st b=none/\r=.raw (.map (some b))/\zZn es/\st'=st.put b (some (.map .sg es))):=by
 refine ICall.intro (c:=cf prog gl [] [(1,[])]) func96 rfl (by show _<=31;simp) (by kernel_rfl) ?_;simp only[go_sem];rw[yKg];refine yJ9 (ops:=opsT) (TabJ st) ?_ ?_ _ _ _ _ _ _ rfl ?_
 ·intro listed ad fr st1 ds hz hJ i hi;replace hz:listed.size=45:=hz;obtain⟨h0,o,ho,hdep⟩:=mem_ready.1 hi;have his:i<45:=(Array.getElem?_eq_some_iff.1 ho).1;have hoi:o=opT i:=by
   have:=yZu (ops:=opsT) (i:=i) his;rw[ho,xU7 his] at this;exact Option.some.inj this
  subst hoi;rw[xU7 his];have hfl:listed.getD i false=false:=by
   rw[Array.getD_eq_getD_getElem?,Array.getElem?_eq_getElem (by omega)] at h0 ⊢;exact h0
  obtain⟨rfl,b,es,hst,hsl⟩:=hJ;by_cases i0:i=0
  ·subst i0;rw[show opT 0=⟨some 1,.makeMap 55 none,55, "tableau.go:89",#[],none⟩ from rfl,yQ5];obtain⟨l0,_⟩|⟨_,rfl,l43,l44,lk⟩:=hst
   ·rw[hfl] at l0;cases l0
   simp only[go_sem];refine λb'=>yQf λhb'=>⟨rfl,b',[],.inl ⟨by rw[yQo (by omega),if_pos rfl],hb',rfl,λk hk=>?_,λ_ _ _=>rfl⟩,yJo yU8 hz his rfl λj hj hl d v hs=>hsl j hj hl d v ?_⟩
   ·rw[if_neg (by rw[yQo (by omega),if_neg (by omega),lk k hk];decide)];rfl
   ·have j0:j≠0:=λh=>by rw[h,hfl] at hl;cases hl
    have j43:j≠43:=λh=>by rw[h,l43] at hl;cases hl
    have j44:j≠44:=λh=>by rw[h,l44] at hl;cases hl
    unfold zKe at hs ⊢;rw[if_neg j0,if_neg j43,if_neg j44] at hs ⊢;exact hs
  by_cases i43:i=43
  ·subst i43;rw[show opT 43=⟨some 30,.move (.tmp 1),55, "tableau.go:89",⟨(List.range 43).map λj=>⟨j,.data⟩⟩,none⟩ from rfl] at hdep ⊢;have d0:listed.getD 0 false=true:=hdep ⟨0,.data⟩ (by simp) rfl;have f1:=hsl 0 (by omega) d0 _ _ rfl;rw[yQ5];simp only[go_sem,f1];refine⟨rfl,b,es,?_,yJo yU8 hz his rfl hsl⟩;have st':∀j,43≠j->(listed.setIfInBounds (43) true).getD j false=listed.getD j false:=λj hj=>by rw[yQo (by omega),if_neg hj]
   obtain⟨l0,hb,hs,hf1,hf2⟩|⟨l0,hs,l43,l44,lk⟩:=hst
   ·exact .inl ⟨by rw[st' 0 (by omega)];exact l0,hb,hs,λk' hk'=>by rw[hf1 k' hk',st' _ (by omega)],hf2⟩
   ·first|(rw[l0] at d0;cases d0;done)|(rw[l43] at d0;cases d0;done)
  by_cases i44:i=44
  ·subst i44;rw[show opT 44=⟨some 0,.assign (.tmp 30),55, "tableau.go:89",⟨⟨43,.data⟩::(List.range 44).map λj=>⟨j,.phase⟩⟩,none⟩ from rfl] at hdep ⊢;have d0:listed.getD 43 false=true:=hdep ⟨43,.data⟩ (by simp) rfl;have f1:=hsl 43 (by omega) d0 _ _ rfl;rw[yQ5];simp only[go_sem,f1];refine⟨rfl,b,es,?_,yJo yU8 hz his rfl hsl⟩;have st':∀j,44≠j->(listed.setIfInBounds (44) true).getD j false=listed.getD j false:=λj hj=>by rw[yQo (by omega),if_neg hj]
   obtain⟨l0,hb,hs,hf1,hf2⟩|⟨l0,hs,l43,l44,lk⟩:=hst
   ·exact .inl ⟨by rw[st' 0 (by omega)];exact l0,hb,hs,λk' hk'=>by rw[hf1 k' hk',st' _ (by omega)],hf2⟩
   ·first|(rw[l0] at d0;cases d0;done)|(rw[l43] at d0;cases d0;done)
  rcases (show i%3=1\/i%3=2\/i%3=0 by omega) with h3|h3|h3
  ·obtain⟨k,hk,rfl⟩:∃k,k<14/\i=1+3*k:=⟨i / 3,by omega,by omega⟩
   have he:opT (1+3*k)=⟨some (2+2*k),.build 244 ⟨[(0,.const (.bool (kB k))),(1,.const (.int .u8 (kO k)))]⟩,244, "tableau.go:89",#[],none⟩:=by
    unfold opT;rw[if_neg (by omega),if_neg (by omega),if_neg (by omega),if_pos (by omega),show (1+3*k) / 3=k by omega]
   rw[he,yQ5];simp only[go_sem,zA,zL,fits];refine⟨rfl,b,es,?_,yJo yU8 hz his (xJm hk) hsl⟩;have st':∀j,1+3*k≠j->(listed.setIfInBounds (1+3*k) true).getD j false=listed.getD j false:=λj hj=>by rw[yQo (by omega),if_neg hj]
   rcases hst with⟨l0,hb,hs,hf1,hf2⟩|⟨l0,hs,l43,l44,lk⟩
   ·exact .inl ⟨by rw[st' 0 (by omega)];exact l0,hb,hs,λk' hk'=>by rw[hf1 k' hk',st' _ (by omega)],hf2⟩
   ·exact .inr ⟨by rw[st' 0 (by omega)];exact l0,hs,by rw[st' 43 (by omega)];exact l43,by rw[st' 44 (by omega)];exact l44,λk' hk'=>by rw[st' _ (by omega)];exact lk k' hk'⟩
  ·obtain⟨k,hk,rfl⟩:∃k,k<14/\i=2+3*k:=⟨i / 3,by omega,by omega⟩
   have he:opT (2+3*k)=⟨some (3+2*k),.build 236 ⟨[(0,.const (.int .u8 (kR k).1)),(1,.const (.int .i64 (kR k).2)),(2,.func (zKo (kB k) (kO k)))]⟩,236, "tableau.go:89",#[],none⟩:=by
    unfold opT;rw[if_neg (by omega),if_neg (by omega),if_neg (by omega),if_neg (by omega),if_pos (by omega),show (2+3*k) / 3=k by omega]
   rw[he,yQ5];simp only[go_sem,zA,zL,fits];refine⟨rfl,b,es,?_,yJo yU8 hz his (xJl hk) hsl⟩;have st':∀j,2+3*k≠j->(listed.setIfInBounds (2+3*k) true).getD j false=listed.getD j false:=λj hj=>by rw[yQo (by omega),if_neg hj]
   rcases hst with⟨l0,hb,hs,hf1,hf2⟩|⟨l0,hs,l43,l44,lk⟩
   ·exact .inl ⟨by rw[st' 0 (by omega)];exact l0,hb,hs,λk' hk'=>by rw[hf1 k' hk',st' _ (by omega)],hf2⟩
   ·exact .inr ⟨by rw[st' 0 (by omega)];exact l0,hs,by rw[st' 43 (by omega)];exact l43,by rw[st' 44 (by omega)];exact l44,λk' hk'=>by rw[st' _ (by omega)];exact lk k' hk'⟩
  ·obtain⟨k,hk,rfl⟩:∃k,k<14/\i=3+3*k:=⟨i / 3-1,by omega,by omega⟩
   have he:opT (3+3*k)=⟨none,.insert 55 (.tmp 1) (.tmp (2+2*k)) (.tmp (3+2*k)),0, "tableau.go:89",⟨[⟨0,.data⟩,⟨1+3*k,.data⟩,⟨2+3*k,.data⟩]⟩,none⟩:=by
    unfold opT;rw[if_neg (by omega),if_neg (by omega),if_neg (by omega),if_neg (by omega),if_neg (by omega),show (3+3*k) / 3-1=k by omega,show 3+3*k-2=1+3*k by omega,show 3+3*k-1=2+3*k by omega]
   rw[he] at hdep ⊢;have d0:listed.getD 0 false=true:=hdep ⟨0,.data⟩ (by simp) rfl;have d1:listed.getD (1+3*k) false=true:=hdep ⟨1+3*k,.data⟩ (by simp) rfl;have d2:listed.getD (2+3*k) false=true:=hdep ⟨2+3*k,.data⟩ (by simp) rfl;have f0:=hsl 0 (by omega) d0 _ _ rfl;have f1:=hsl _ (by omega) d1 _ _ (xJm hk);have f2:=hsl _ (by omega) d2 _ _ (xJl hk);obtain⟨_,hb,rfl,hf1,hf2⟩|⟨l0,_⟩:=hst
   case inr=>rw[d0] at l0;cases l0
   unfold kIV at f1;unfold vIV xVt at f2;have e1:decide ((0:Int)<=(kO k:Int))=true:=dEt (by omega);have e2:decide ((kO k:Int)<=255)=true:=dEt (by have:=k_lt hk;omega);rw[yQ5];simp only[go_sem,f0,f1,f2,e1,e2,ISt.put_same,yQh];have st':∀j,3+3*k≠j->(listed.setIfInBounds (3+3*k) true).getD j false=listed.getD j false:=λj hj=>by rw[yQo (by omega),if_neg hj]
   refine⟨rfl,b,updI (sgV (kB k) (kO k)) (vIV k) es,.inl ⟨by rw[st' 0 (by omega)];exact d0,hb,rfl,λk' hk'=>?_,λb' o hn=>?_⟩,λj hj hl d v hs=>?_⟩
   ·rw[zX8];by_cases hkk:k'=k
    ·subst hkk;rw[if_pos ⟨rfl,rfl⟩,if_pos (by rw[yQo (by omega),if_pos rfl])]
    ·rw[if_neg (λhc=>hkk (wUr hk' hk hc.1 (by have:=hc.2;omega))),hf1 k' hk',st' _ (by omega)]
   ·rw[zX8,if_neg (λhc=>?_),hf2 b' o hn];obtain⟨r,hr⟩:=uWg hk;rw[hc.1,hc.2,hr] at hn;cases hn
   ·by_cases hjk:3+3*k=j
    ·subst hjk;unfold zKe at hs;rw[if_neg (by omega),if_neg (by omega),if_neg (by omega),if_neg (by omega),if_neg (by omega)] at hs;cases hs
    ·rw[st' j hjk] at hl;exact hsl j hj hl d v hs
 ·intro listed ad fr st1 ds hz hr hJ;have hl:=zXy (ops:=opsT) (by decide +kernel) hz hr;obtain⟨rfl,b,es,hst,hsl⟩:=hJ;obtain⟨_,hb,rfl,hf⟩|⟨l0,_⟩:=hst
  case inr=>rw[hl 0 (by decide)] at l0;cases l0
  have f0:=hsl 44 (by decide) (hl 44 (by decide)) _ _ rfl;simp only[go_sem,f0];exact yQ0 ⟨b,es,hb,rfl,wXp (λk hk=>hl _ (by show 3+3*k<45;omega)) hf,rfl⟩
 ·refine⟨rfl,0,[],.inr ⟨yXw _ _,rfl,yXw _ _,yXw _ _,λk hk=>yXw _ _⟩,λi hi hl=>?_⟩;have:=yXw 45 i;rw[show (Array.replicate 45 false).getD i false=true from hl] at this;cases this
theorem IsMk.agg {m:Mk}{x:IV}(h:IsMk m x):∃(o:Int) (n:ByteArray) (t:Tag) (xs:List IV) (t':Tag) (ys:List IV),x=.agg [.raw (.bool m.is),.raw (.int .i64 m.w),.raw (.int .u8 o),.raw (.string n),.sl t xs,.sl t' ys]:=by
 obtain⟨o,n,t,xs,t',ys,h,_⟩:=h;exact⟨_,_,_,_,_,_,h⟩
def fnF (m:Mk):IV:=if (yZd m).1=0 then .raw .nilFunc else .fn (.func (zKo m.is m.f.op)) [] []
def rowF (m:Mk):IV:=.agg [.raw (.int .u8 (yZd m).1),.raw (.int .i64 (yZd m).2),fnF m]
theorem wGk {b:Bool}{o:Int}{r:Nat×Nat}(h:rowT b o=some r):r.1≠0/\r.1<=4/\r.2<=2:=by
 unfold rowT at h;rcases yXp h with⟨_,rfl⟩|⟨_,h⟩
 ·decide
 rcases yXp h with⟨_,rfl⟩|⟨_,h⟩
 ·cases b<;>decide
 rcases yXp h with⟨_,rfl⟩|⟨_,h⟩
 ·cases b<;>decide
 rcases yXp h with⟨_,rfl⟩|⟨_,h⟩
 ·cases b<;>decide
 rcases yXp h with⟨_,rfl⟩|⟨_,h⟩
 ·cases b<;>decide
 rcases yXp h with⟨_,rfl⟩|⟨_,h⟩
 ·cases b<;>decide
 rcases yXp h with⟨_,rfl⟩|⟨_,h⟩
 ·cases b<;>decide
 cases h
theorem zXm (m:Mk)(y:IV)(hy:IsMk m y)(st:ISt)(b:Nat)(es:List (Value×IV))(hb:st b=some (.map .sg es))(ht:zZn es) :
  ICall prog gl 150 [.raw (.map (some b)),y] st (λr st'=>r=rowF m/\st'=st):=by
 obtain⟨is,w,f⟩:=m;obtain⟨o',n',t1,x1,t2,x2,rfl,hf⟩:=hy;obtain⟨o,n,us,sub⟩:=f;obtain⟨_,_,_,_,he,ho,e1,i1,e2,i2⟩:=hf.mk;simp only[IV.agg.injEq,List.cons.injEq,IV.raw.injEq,Value.int.injEq,Value.string.injEq,IV.sl.injEq,true_and,and_true] at he;obtain⟨rfl,rfl,⟨rfl,rfl⟩,rfl,rfl⟩:=he;have d1:decide ((0:Int)<=(o:Int))=true:=dEt (by omega);have d2:decide ((o:Int)<=255)=true:=dEt (by omega);have hfi:yXl (.agg #[.bool is,.int .u8 (o:Int)]) es=(rowT is o).map λr=>xVt r (zKo is o):=ht is o;refine iI func150 ?_;cases hr:rowT is o with
 | none =>
  have hT:yZd ⟨is,w,.mk o n' us sub⟩=(0,0):=by unfold yZd;simp only[Fm.op,hr]
  simp only[go_sem,zE,zA,zL,reduceCtorEq,d1,d2,hb,hfi,hr,Option.map_none,zQb,rowZ,fits];exact yQ0 ⟨by simp only[rowF,fnF,hT,if_true];rfl,rfl⟩
 | some r =>
  obtain⟨p1,p2,p3⟩:=wGk hr;obtain⟨k,q⟩:=r;simp only at p1 p2 p3;by_cases hl:sub.length=q
  ·have hT:yZd ⟨is,w,.mk o n' us sub⟩=(k,q):=by unfold yZd;simp only[Fm.op,Fm.subs,hr,hl,if_true]
   have dl:decide ((sub.length:Int)=(q:Int))=true:=dEt (by omega);simp only[go_sem,zE,zA,zL,reduceCtorEq,d1,d2,hb,hfi,hr,Option.map_some,yG8,xVt,i2.len,dl,fits];intros;exact yQ0 ⟨by simp only[rowF,fnF,hT,if_neg p1];rfl,rfl⟩
  ·have hT:yZd ⟨is,w,.mk o n' us sub⟩=(0,0):=by unfold yZd;simp only[Fm.op,Fm.subs,hr];exact if_neg hl
   have dl:decide ((sub.length:Int)=(q:Int))=false:=dEf (by omega);simp only[go_sem,zE,zA,zL,reduceCtorEq,d1,d2,hb,hfi,hr,Option.map_some,yG8,xVt,i2.len,dl,fits];intros;exact yQ0 ⟨by simp only[rowF,fnF,hT,if_true];rfl,rfl⟩
theorem yUv {b:Bool}{o:Nat}{r:Nat×Nat}(h:rowT b o=some r)(ho:o<=7):zKb gl (zKo b o) (askT b o)/\entI prog (zKo b o)=true/\(r.1=1\/r.1=2)/\(r.2=1\/r.2=2):=by
 have hc:o=3\/o=4\/o=5\/o=6\/o=7:=by
  refine Classical.byContradiction λhc=>?_;unfold rowT at h
  repeat (rw[if_neg (by omega)] at h)
  cases h
 rcases hc with rfl|rfl|rfl|rfl|rfl<;>cases b<;>obtain rfl:=Option.some.inj h
 ·exact⟨vVy gl,by kernel_rfl,by decide,by decide⟩
 ·exact⟨vVz gl,by kernel_rfl,by decide,by decide⟩
 ·exact⟨vVw gl,by kernel_rfl,by decide,by decide⟩
 ·exact⟨vVx gl,by kernel_rfl,by decide,by decide⟩
 ·exact⟨vVu gl,by kernel_rfl,by decide,by decide⟩
 ·exact⟨vVv gl,by kernel_rfl,by decide,by decide⟩
 ·exact⟨vVs gl,by kernel_rfl,by decide,by decide⟩
 ·exact⟨vVt gl,by kernel_rfl,by decide,by decide⟩
 ·exact⟨vQs gl,by kernel_rfl,by decide,by decide⟩
 ·exact⟨vVr gl,by kernel_rfl,by decide,by decide⟩
def mkH (w:Int)(h:Bool×Fm):Mk:=⟨h.1,w,h.2⟩
theorem zJe {m:Mk}{w:Int}{k:Nat}{q:Nat}(h:yZd m=(k,q))(hk:k=1\/k=2):yQi m w=(askT m.is m.f.op ((m.f.subs[0]?).getD fm0) (if q=2 then (m.f.subs[1]?).getD fm0 else fm0)).map λl=>l.map (mkH m.w):=by
 unfold yQi;rw[h,if_neg (by show ¬ k=0;omega)];simp only[if_pos hk];rfl
theorem wU3 {st st' S0:ISt}{tg:Tag}{n s:Nat}(h:own st tg n s S0)(hs:subSt st st'):own st' tg n s S0:=h.mono λg hg _=>hs g _ hg
theorem zJd (m:Mk)(y:IV)(hy:IsMk m y)(hm:m.f.op<=7)(w:Int)(st:ISt)(b:Nat)(es:List (Value×IV))(hb:st b=some (.map .sg es))(ht:zZn es) :
  ICall prog gl 93 [.raw (.map (some b)),y,.raw (.int .i64 w)] st (λr st'=>∃tg xs,r=.sl tg xs/\okEs tg 1/\IsMkss (yQi m w) xs/\st'=st):=by
 have hfind:=λst hb=>zXm gl m y hy st b es hb ht;obtain⟨is,mw,f⟩:=m;obtain⟨o',n',t1,x1,t2,x2,rfl,hf⟩:=hy;obtain⟨o,n,us,sub⟩:=f;obtain⟨_,_,_,_,he,ho,e1,i1,e2,i2⟩:=hf.mk;simp only[IV.agg.injEq,List.cons.injEq,IV.raw.injEq,Value.int.injEq,Value.string.injEq,IV.sl.injEq,true_and,and_true] at he;obtain⟨rfl,rfl,⟨rfl,rfl⟩,rfl,rfl⟩:=he;simp only[Fm.op] at hm;refine ICall.intro (c:=cf prog gl [] [(10,[0,1,2,3,4,5,6,7,10,8,9])]) func93 rfl (by show _<=75;simp) (by kernel_rfl) ?_;simp only[go_sem,zE,zA,zL,reduceCtorEq];refine (hfind _ hb).mono ?_;rintro _ st ⟨rfl,rfl⟩;by_cases hk:(yZd ⟨is,mw,.mk o n' us sub⟩).1=0
 ·have dk:decide (((yZd ⟨is,mw,.mk o n' us sub⟩).1:Int)=0)=true:=dEt (by omega);have hf0:fnF ⟨is,mw,.mk o n' us sub⟩=.raw .nilFunc:=by unfold fnF;rw[if_pos hk]
  simp only[go_sem,zE,zA,zL,rowF,hf0,dk];exact yQ0 ⟨_,_,rfl,.inl rfl,by unfold yQi;rw[if_pos hk];rfl,rfl⟩
 obtain⟨⟨k,q⟩,hr,hq,hT⟩:=yKf hk;simp only[Fm.op,Fm.subs] at hr hq;obtain⟨hask,hent,hk12,hq12⟩:=yUv gl hr hm;simp only at hk12 hq12;rw[zJe hT hk12];simp only[Fm.op,Fm.subs];have hfn:fnF ⟨is,mw,.mk o n' us sub⟩=.fn (.func (zKo is o)) [] []:=by unfold fnF;rw[if_neg hk];rfl
 have dk:decide ((k:Int)=0)=false:=dEf (by omega);obtain⟨a,ha⟩:=yQ3 (show 0<sub.length by omega);obtain⟨ya,hka,hA⟩:=i2.get ha;have hA0:=hA;obtain⟨o5,n5,t5,x5,t6,x6,rfl⟩:=hA0.agg;rw[ha,Option.getD_some];rcases hq12 with rfl|rfl;rw[if_neg (by decide)];have hB:=vKi ⟨true,.nil,0⟩ ⟨true,.nil,0⟩ (.inl rfl) (.inl rfl);generalize fm0=fB at hB ⊢;rcases hk12 with rfl|rfl;simp only[go_sem,zE,zB,zA,zL,rowF,hfn,hT,hent,fits,yQ2 e2,Int.le_refl,Int.toNat_zero,hka,show decide (((1:Nat):Int)=0)=false from rfl,show decide (((1:Nat):Int)=2)=false from rfl,show decide (((1:Nat):Int)=1)=true from rfl]
 rotate_left
 simp only[go_sem,zE,zB,zA,zL,rowF,hfn,hT,hent,fits,yQ2 e2,Int.le_refl,Int.toNat_zero,hka,show decide (((2:Nat):Int)=0)=false from rfl,show decide (((1:Nat):Int)=2)=false from rfl,show decide (((2:Nat):Int)=1)=false from rfl,show decide (((2:Nat):Int)=2)=true from rfl]
 rotate_left
 rw[if_pos rfl];obtain⟨fB,hb'⟩:=yQ3 (show 1<sub.length by omega);obtain⟨yb,hkb,hB⟩:=i2.get hb';have hB0:=hB;obtain⟨o7,n7,t7,x7,t8,x8,rfl⟩:=hB0.agg;rw[hb',Option.getD_some];rcases hk12 with rfl|rfl;simp only[go_sem,zE,zB,zA,zL,rowF,hfn,hT,hent,fits,yQ2 e2,Int.le_refl,Int.toNat_zero,hka,Int.toNat_one,hkb,show decide (((1:Nat):Int)=0)=false from rfl,show decide (((2:Nat):Int)=2)=true from rfl,show decide (((1:Nat):Int)=1)=true from rfl]
 rotate_left
 simp only[go_sem,zE,zB,zA,zL,rowF,hfn,hT,hent,fits,yQ2 e2,Int.le_refl,Int.toNat_zero,hka,Int.toNat_one,hkb,show decide (((2:Nat):Int)=0)=false from rfl,show decide (((2:Nat):Int)=1)=false from rfl,show decide (((2:Nat):Int)=2)=true from rfl]
 rotate_left
 all_goals
  refine (hask _ _ _ _ hA hB _).mono ?_;rintro _ st1 ⟨tg,xs,rfl,htg,hxs,rfl⟩;generalize hL:askT is o a fB=L at hxs ⊢;have hL2:L.length<=2:=by rw[<- hL];exact zQn ..
  have hL3:∀q∈L,q.length<=2:=by rw[<- hL];exact zYr _ _ _ _
  simp only[go_sem,hxs.len];refine LoopC.ctr L.length (λk fr st' ds=>(∃tg' zs,fr 9=.iv (.sl tg' zs)/\IsMkss ((L.take k).map λl=>l.map (mkH mw)) zs/\own st' tg' k 1 st1/\subSt st1 st')/\fr 2=.iv (.raw (.int .i64 mw))/\fr 47=.iv (.sl tg xs)/\fr 48=.iv (.raw (.int .i64 L.length))/\fr 49=.iv (.raw (.int .i64 k))/\ds=[]) ?_ ?_ ?_
  ·simp only[go_sem,zE];exact⟨⟨_,_,rfl,rfl,.inl ⟨rfl,rfl⟩,subSt.refl _⟩,rfl⟩
  ·rintro k fr st2 _ hlt ⟨⟨tgo,zs,f9,hzs,hown,hsub⟩,f2,f47,f48,f49,rfl⟩;obtain⟨a,ha⟩:=yQ3 hlt;obtain⟨ta,za,hka,hta,hza⟩:=hxs.get ha;have ha2:=hL3 a (lMg ha);simp only[go_sem,zE,f47,f48,f49,lt_i hlt,yQ2 htg,iNn,hka,fits,hza.len];intro _;refine LoopC.ctr a.length (λj fr st' ds=>(∃tg' zs,fr 12=.iv (.sl tg' zs)/\IsMks ((a.take j).map (mkH mw)) zs/\own st' tg' j 6 st2/\subSt st2 st')/\fr 2=.iv (.raw (.int .i64 mw))/\fr 9=.iv (.sl tgo zs)/\fr 47=.iv (.sl tg xs)/\fr 48=.iv (.raw (.int .i64 L.length))/\fr 49=.iv (.raw (.int .i64 k))/\fr 53=.iv (.sl ta za)/\fr 54=.iv (.raw (.int .i64 a.length))/\fr 55=.iv (.raw (.int .i64 j))/\ds=[]) ?_ ?_ ?_
   ·simp only[go_sem,zE,f2,f9,f47,f48,f49];exact⟨⟨_,_,rfl,rfl,.inl ⟨rfl,rfl⟩,subSt.refl _⟩,rfl⟩
   ·rintro j fr st3 _ hjt ⟨⟨tgi,zi,f12,hzi,hoi,hsi⟩,f2,f9,f47,f48,f49,f53,f54,f55,rfl⟩;obtain⟨h,hh⟩:=yQ3 hjt;obtain⟨y,hky,hy⟩:=hza.get hh;obtain⟨oh,nh,t5,x5,t6,x6,rfl,hfh⟩:=hy;simp only[go_sem,zE,zB,zA,zM,zL,f2,f12,f53,f54,f55,lt_i hjt,yQ2 hta,iNn,hky,fits,yQ1];refine yZw hoi (by rw[hzi.len,List.length_map,List.length_take];omega) hsi rfl (by simp[fits,IV.one]) (by simp only;omega) (by omega) λtg2 st4 hown2 hsub4 _=>?_;simp only[go_sem,zE,f2,f9,f47,f48,f49,f53,f54,f55,yQa hjt (show a.length<=281474976710656 by omega)];refine⟨tg2,_,rfl,?_,hown2,hsub4⟩;rw[yQ8 hh,List.map_append];exact hzi.append (IsMks.one ⟨_,_,_,_,_,_,rfl,hfh⟩)
   ·rintro fr st3 _ ⟨⟨tgi,zi,f12,hzi,hoi,hsi⟩,f2,f9,f47,f48,f49,f53,f54,f55,rfl⟩;rw[lTl] at hzi;simp only[go_sem,zE,zA,zM,zL,f9,f12,f54,f55,yQk (nLi _),fits,yQ1];refine yZw (wU3 hown hsi) (by rw[hzs.len,List.length_map,List.length_take];omega) (hsub.trans hsi) rfl (by simp[fits,IV.one]) (by simp only;omega) (by omega) λtg2 st4 hown2 hsub4 _=>?_;simp only[go_sem,zE,f2,f47,f48,f49,yQa hlt (show L.length<=281474976710656 by omega)];refine⟨tg2,_,rfl,?_,hown2,hsub4⟩;rw[yQ8 ha,List.map_append];exact hzs.append (IsMkss.one hoi.es hzi)
  ·rintro fr st2 _ ⟨⟨tgo,zs,f9,hzs,hown,hsub⟩,f2,f47,f48,f49,rfl⟩;rw[lTl] at hzs;simp only[go_sem,zE,f9,f48,f49,yQk (nLi _)];exact yQb hsub ⟨_,_,rfl,hown.es,hzs,rfl⟩
theorem yZv {is:Bool}{w:Int}{o:Nat}{n:ByteArray}{us:List Tm}{sub:List Fm}{r:Nat×Nat}(h:rowT is o=some r):yZd ⟨is,w,.mk o n us sub⟩=if sub.length=r.2 then r else (0,0):=by
 unfold yZd;simp only[Fm.op,Fm.subs,h];rfl
theorem xZg (m:Mk)(y:IV)(hy:IsMk m y)(st:ISt):ICall prog gl 175 [y] st (λr st'=>r=.raw (.int .u8 (yZd m).1)/\st'=st):=by
 obtain⟨is,w,f⟩:=m;obtain⟨o',n',t1,x1,t2,x2,rfl,hf⟩:=hy;obtain⟨o,n,us,sub⟩:=f;obtain⟨_,_,_,_,he,ho,e1,i1,e2,i2⟩:=hf.mk;simp only[IV.agg.injEq,List.cons.injEq,IV.raw.injEq,Value.int.injEq,Value.string.injEq,IV.sl.injEq,true_and,and_true] at he;obtain⟨rfl,rfl,⟨rfl,rfl⟩,rfl,rfl⟩:=he;refine iI func175 ?_;by_cases h3:o=3
 ·have d3:decide ((o:Int)=3)=true:=dEt (by omega);by_cases hl:sub.length=1
  ·have dl:decide ((sub.length:Int)=1)=true:=dEt (by omega);cases is
   ·simp only[go_sem,zE,zA,i2.len,dl,d3];intros;exact yQ0 ⟨by subst h3;rw[yZv (r:=(1,1)) rfl,if_pos hl];rfl,rfl⟩
   ·simp only[go_sem,zE,zA,i2.len,dl,d3];intros;exact yQ0 ⟨by subst h3;rw[yZv (r:=(1,1)) rfl,if_pos hl];rfl,rfl⟩
  ·have dl:decide ((sub.length:Int)=1)=false:=dEf (by omega);simp only[go_sem,zE,zA,i2.len,dl,d3];intros;exact yQ0 ⟨by subst h3;rw[yZv (r:=(if is then 1 else 1,1)) (by cases is<;>rfl),if_neg hl];rfl,rfl⟩
 have d3:decide ((o:Int)=3)=false:=dEf (by omega);by_cases h4:o=4
 ·have d4:decide ((o:Int)=4)=true:=dEt (by omega);by_cases hl:sub.length=2
  ·have dl:decide ((sub.length:Int)=2)=true:=dEt (by omega);cases is
   ·simp only[go_sem,zE,zA,i2.len,dl,d3,d4,show (false == true)=false from rfl];intros;exact yQ0 ⟨by subst h4;rw[yZv (r:=(2,2)) rfl,if_pos hl];rfl,rfl⟩
   ·simp only[go_sem,zE,zA,i2.len,dl,d3,d4,show (true == true)=true from rfl];intros;exact yQ0 ⟨by subst h4;rw[yZv (r:=(1,2)) rfl,if_pos hl];rfl,rfl⟩
  ·have dl:decide ((sub.length:Int)=2)=false:=dEf (by omega);simp only[go_sem,zE,zA,i2.len,dl,d3,d4];intros;exact yQ0 ⟨by subst h4;rw[yZv (r:=(if is then 1 else 2,2)) (by cases is<;>rfl),if_neg hl];rfl,rfl⟩
 have d4:decide ((o:Int)=4)=false:=dEf (by omega);by_cases h6:o=6
 ·have d6:decide ((o:Int)=6)=true:=dEt (by omega);by_cases hl:sub.length=2
  ·have dl:decide ((sub.length:Int)=2)=true:=dEt (by omega);cases is
   ·simp only[go_sem,zE,zA,i2.len,dl,d3,d4,d6,show (false == false)=true from rfl];intros;exact yQ0 ⟨by subst h6;rw[yZv (r:=(1,2)) rfl,if_pos hl];rfl,rfl⟩
   ·simp only[go_sem,zE,zA,i2.len,dl,d3,d4,d6,show (true == false)=false from rfl];intros;exact yQ0 ⟨by subst h6;rw[yZv (r:=(2,2)) rfl,if_pos hl];rfl,rfl⟩
  ·have dl:decide ((sub.length:Int)=2)=false:=dEf (by omega);simp only[go_sem,zE,zA,i2.len,dl,d3,d4,d6];intros;exact yQ0 ⟨by subst h6;rw[yZv (r:=(if is then 2 else 1,2)) (by cases is<;>rfl),if_neg hl];rfl,rfl⟩
 have d6:decide ((o:Int)=6)=false:=dEf (by omega);by_cases h5:o=5
 ·have d5:decide ((o:Int)=5)=true:=dEt (by omega);by_cases hl:sub.length=2
  ·have dl:decide ((sub.length:Int)=2)=true:=dEt (by omega);cases is
   ·simp only[go_sem,zE,zA,i2.len,dl,d3,d4,d6,d5];intros;exact yQ0 ⟨by subst h5;rw[yZv (r:=(1,2)) rfl,if_pos hl];rfl,rfl⟩
   ·simp only[go_sem,zE,zA,i2.len,dl,d3,d4,d6,d5];intros;exact yQ0 ⟨by subst h5;rw[yZv (r:=(2,2)) rfl,if_pos hl];rfl,rfl⟩
  ·have dl:decide ((sub.length:Int)=2)=false:=dEf (by omega);simp only[go_sem,zE,zA,i2.len,dl,d3,d4,d6,d5];intros;exact yQ0 ⟨by subst h5;rw[yZv (r:=(if is then 2 else 1,2)) (by cases is<;>rfl),if_neg hl];rfl,rfl⟩
 have d5:decide ((o:Int)=5)=false:=dEf (by omega);by_cases h7:o=7
 ·have d7:decide ((o:Int)=7)=true:=dEt (by omega);by_cases hl:sub.length=2
  ·have dl:decide ((sub.length:Int)=2)=true:=dEt (by omega);cases is
   ·simp only[go_sem,zE,zA,i2.len,dl,d3,d4,d5,d6,d7];intros;exact yQ0 ⟨by subst h7;rw[yZv (r:=(2,2)) rfl,if_pos hl];rfl,rfl⟩
   ·simp only[go_sem,zE,zA,i2.len,dl,d3,d4,d5,d6,d7];intros;exact yQ0 ⟨by subst h7;rw[yZv (r:=(1,2)) rfl,if_pos hl];rfl,rfl⟩
  ·have dl:decide ((sub.length:Int)=2)=false:=dEf (by omega);simp only[go_sem,zE,zA,i2.len,dl,d3,d4,d5,d6,d7];intros;exact yQ0 ⟨by subst h7;rw[yZv (r:=(if is then 1 else 2,2)) (by cases is<;>rfl),if_neg hl];rfl,rfl⟩
 have d7:decide ((o:Int)=7)=false:=dEf (by omega);by_cases h10:o=10
 ·have d10:decide ((o:Int)=10)=true:=dEt (by omega);by_cases hl:sub.length=1
  ·have dl:decide ((sub.length:Int)=1)=true:=dEt (by omega);cases is
   ·simp only[go_sem,zE,zA,i2.len,dl,d3,d4,d5,d6,d7,d10];intros;exact yQ0 ⟨by subst h10;rw[yZv (r:=(4,1)) rfl,if_pos hl];rfl,rfl⟩
   ·simp only[go_sem,zE,zA,i2.len,dl,d3,d4,d5,d6,d7,d10];intros;exact yQ0 ⟨by subst h10;rw[yZv (r:=(3,1)) rfl,if_pos hl];rfl,rfl⟩
  ·have dl:decide ((sub.length:Int)=1)=false:=dEf (by omega);simp only[go_sem,zE,zA,i2.len,dl,d3,d4,d5,d6,d7,d10];intros;exact yQ0 ⟨by subst h10;rw[yZv (r:=(if is then 3 else 4,1)) (by cases is<;>rfl),if_neg hl];rfl,rfl⟩
 have d10:decide ((o:Int)=10)=false:=dEf (by omega);by_cases h11:o=11
 ·have d11:decide ((o:Int)=11)=true:=dEt (by omega);by_cases hl:sub.length=1
  ·have dl:decide ((sub.length:Int)=1)=true:=dEt (by omega);cases is
   ·simp only[go_sem,zE,zA,i2.len,dl,d3,d4,d5,d6,d7,d10,d11];intros;exact yQ0 ⟨by subst h11;rw[yZv (r:=(3,1)) rfl,if_pos hl];rfl,rfl⟩
   ·simp only[go_sem,zE,zA,i2.len,dl,d3,d4,d5,d6,d7,d10,d11];intros;exact yQ0 ⟨by subst h11;rw[yZv (r:=(4,1)) rfl,if_pos hl];rfl,rfl⟩
  ·have dl:decide ((sub.length:Int)=1)=false:=dEf (by omega);simp only[go_sem,zE,zA,i2.len,dl,d3,d4,d5,d6,d7,d10,d11];intros;exact yQ0 ⟨by subst h11;rw[yZv (r:=(if is then 4 else 3,1)) (by cases is<;>rfl),if_neg hl];rfl,rfl⟩
 have d11:decide ((o:Int)=11)=false:=dEf (by omega);simp only[go_sem,zE,zA,i2.len,d3,d4,d5,d6,d7,d10,d11];intros;refine yQ0 ⟨?_,rfl⟩;have hr:rowT is (o:Int)=none:=by
  unfold rowT
  repeat (rw[if_neg (by omega)])
 unfold yZd;simp only[Fm.op,hr];rfl
theorem xZq {a:List Mk}{t:Tag}{zs:List IV}(ht:okEs t 6)(h:IsMks a zs):IsMkss [a] [.sl t zs]:=⟨_,_,_,rfl,ht,h,rfl⟩
theorem wJq {a a':List Mk}{t t':Tag}{zs zs':List IV}(ht:okEs t 6)(h:IsMks a zs)(ht':okEs t' 6)(h':IsMks a' zs'):IsMkss [a,a'] [.sl t zs,.sl t' zs']:=⟨_,_,_,rfl,ht,h,xZq ht' h'⟩
theorem mks1 {m:Mk}{x:IV}(h:IsMk m x):IsMks [m] [x]:=⟨_,_,rfl,h,rfl⟩
theorem mks2 {m m':Mk}{x x':IV}(h:IsMk m x)(h':IsMk m' x'):IsMks [m,m'] [x,x']:=⟨_,_,rfl,h,mks1 h'⟩
theorem mkOf {b:Bool}{w:Int}{f:Fm}{o:Int}{n:ByteArray}{t t':Tag}{xs ys:List IV}(h:IsFm f (.agg [.raw (.int .u8 o),.raw (.string n),.sl t xs,.sl t' ys])):IsMk ⟨b,w,f⟩ (.agg [.raw (.bool b),.raw (.int .i64 w),.raw (.int .u8 o),.raw (.string n),.sl t xs,.sl t' ys]):=⟨_,_,_,_,_,_,rfl,h⟩
theorem le01:((0:Int)<=1)=True:=eq_true (by omega)
set_option maxHeartbeats 1000000 in
theorem xU1 (m:Mk)(y:IV)(hy:IsMk m y)(hm:m.f.op<=7)(w:Int)(st:ISt) :
  ICall prog gl 103 [y,.raw (.int .i64 w)] st (λr st'=>∃tg xs,r=.sl tg xs/\okEs tg 1/\IsMkss (yQi m w) xs/\st'=st):=by
 have hK:=λst=>xZg gl m y hy st;obtain⟨is,mw,f⟩:=m;obtain⟨o',n',t1,x1,t2,x2,rfl,hf⟩:=hy;obtain⟨o,n,us,sub⟩:=f;obtain⟨_,_,_,_,he,ho,e1,i1,e2,i2⟩:=hf.mk;simp only[IV.agg.injEq,List.cons.injEq,IV.raw.injEq,Value.int.injEq,Value.string.injEq,IV.sl.injEq,true_and,and_true] at he;obtain⟨rfl,rfl,⟨rfl,rfl⟩,rfl,rfl⟩:=he;simp only[Fm.op] at hm;refine iI func103 ?_;simp only[go_sem,zE,zA,zL];refine (hK _).mono ?_;rintro _ st ⟨rfl,rfl⟩;by_cases hk:(yZd ⟨is,mw,.mk o n' us sub⟩).1=0
 ·have dk:decide (((yZd ⟨is,mw,.mk o n' us sub⟩).1:Int)=0)=true:=dEt (by omega);simp only[go_sem,dk];exact yQ0 ⟨_,_,rfl,.inl rfl,by unfold yQi;rw[if_pos hk];rfl,rfl⟩
 obtain⟨⟨k,q⟩,hr,hq,hT⟩:=yKf hk;simp only[Fm.op,Fm.subs] at hr hq;obtain⟨_,_,hk12,hq12⟩:=yUv gl hr hm;simp only at hk12 hq12;rw[zJe hT hk12,hT];simp only[Fm.op,Fm.subs];have dk:decide ((k:Int)=0)=false:=dEf (by omega);have dk3:decide ((3:Int)<=(k:Int))=false:=dEf (by omega);obtain⟨a,ha⟩:=yQ3 (show 0<sub.length by omega);obtain⟨ya,hka,hA⟩:=i2.get ha;have hA0:=hA;obtain⟨o5,n5,t5,x5,t6,x6,rfl⟩:=hA0.agg;rw[ha,Option.getD_some];have hc:o=3/\q=1\/(o=4\/o=5\/o=6\/o=7)/\q=2:=by
  unfold rowT at hr
  repeat (first|(rcases yXp hr with⟨_,h⟩|⟨_,hr⟩;(obtain⟨_,rfl⟩:=Prod.mk.inj h;omega))|cases hr)
 simp only[go_sem,zE,zB,zA,zL,dk,dk3,fits,i2.len,yQ2 e2,Int.le_refl,Int.toNat_zero,hka];intros;rcases hc with⟨h3,rfl⟩|⟨hc,rfl⟩
 ·have d3:decide ((o:Int)=3)=true:=dEt (by omega);have dl:decide ((sub.length:Int)=1)=true:=dEt (by omega);cases is
  ·simp only[go_sem,zE,zA,zM,zL,d3,dl,fits,i2.len,yQ1,show (false == true)=false from rfl];intros;exact yQ0 ⟨_,_,rfl,.inr rfl,by subst h3;exact xZq (.inr rfl) (mks1 (mkOf hA)),rfl⟩
  ·simp only[go_sem,zE,zA,zM,zL,d3,dl,fits,i2.len,yQ1,show (true == true)=true from rfl];intros;exact yQ0 ⟨_,_,rfl,.inr rfl,by subst h3;exact xZq (.inr rfl) (mks1 (mkOf hA)),rfl⟩
 obtain⟨b,hb⟩:=yQ3 (show 1<sub.length by omega);obtain⟨yb,hkb,hB⟩:=i2.get hb;have hB0:=hB;obtain⟨o7,n7,t7,x7,t8,x8,rfl⟩:=hB0.agg;rw[if_pos rfl,hb,Option.getD_some];have dl:decide ((sub.length:Int)=1)=false:=dEf (by omega);simp only[go_sem,zE,zB,zA,zL,dl,fits,i2.len,yQ2 e2,le01,Int.toNat_one,hkb];intros;by_cases h4:o=4
 ·have d4:decide ((o:Int)=4)=true:=dEt (by omega);cases is
  ·simp only[go_sem,zE,zA,zM,zL,d4,fits,yQ1,yQe];intros;exact yQ0 ⟨_,_,rfl,.inr rfl,by subst h4;exact wJq (.inr rfl) (mks1 (mkOf hA)) (.inr rfl) (mks1 (mkOf hB)),rfl⟩
  ·simp only[go_sem,zE,zA,zM,zL,d4,fits,yQ1,yQe];intros;exact yQ0 ⟨_,_,rfl,.inr rfl,by subst h4;exact xZq (.inr rfl) (mks2 (mkOf hA) (mkOf hB)),rfl⟩
 have d4:decide ((o:Int)=4)=false:=dEf (by omega);by_cases h5:o=5
 ·have d5:decide ((o:Int)=5)=true:=dEt (by omega);cases is
  ·simp only[go_sem,zE,zA,zM,zL,d4,d5,fits,yQ1,yQe];intros;exact yQ0 ⟨_,_,rfl,.inr rfl,by subst h5;exact xZq (.inr rfl) (mks2 (mkOf hA) (mkOf hB)),rfl⟩
  ·simp only[go_sem,zE,zA,zM,zL,d4,d5,fits,yQ1,yQe];intros;exact yQ0 ⟨_,_,rfl,.inr rfl,by subst h5;exact wJq (.inr rfl) (mks1 (mkOf hA)) (.inr rfl) (mks1 (mkOf hB)),rfl⟩
 have d5:decide ((o:Int)=5)=false:=dEf (by omega);by_cases h6:o=6
 ·have d6:decide ((o:Int)=6)=true:=dEt (by omega);cases is
  ·simp only[go_sem,zE,zA,zM,zL,d4,d5,d6,fits,yQ1,yQe];intros;exact yQ0 ⟨_,_,rfl,.inr rfl,by subst h6;exact xZq (.inr rfl) (mks2 (mkOf hA) (mkOf hB)),rfl⟩
  ·simp only[go_sem,zE,zA,zM,zL,d4,d5,d6,fits,yQ1,yQe];intros;exact yQ0 ⟨_,_,rfl,.inr rfl,by subst h6;exact wJq (.inr rfl) (mks1 (mkOf hA)) (.inr rfl) (mks1 (mkOf hB)),rfl⟩
 have d6:decide ((o:Int)=6)=false:=dEf (by omega);obtain rfl:o=7:=by omega
 cases is
 ·simp only[go_sem,zE,zA,zM,zL,d4,d5,d6,fits,yQe];intros;exact yQ0 ⟨_,_,rfl,.inr rfl,wJq (.inr rfl) (mks2 (mkOf hA) (mkOf hB)) (.inr rfl) (mks2 (mkOf hB) (mkOf hA)),rfl⟩
 ·have h1:IsFm (impF a b) (.agg [.raw (.int .u8 6),.raw (.string ⟨#[]⟩),.sl ⟨true,.nil,0⟩ [],.sl ⟨true,.full,4⟩ [.agg [.raw (.int .u8 o5),.raw (.string n5),.sl t5 x5,.sl t6 x6],.agg [.raw (.int .u8 o7),.raw (.string n7),.sl t7 x7,.sl t8 x8]]]):=⟨_,_,_,_,rfl,by decide,.inl rfl,rfl,.inr rfl,_,_,rfl,hA,_,_,rfl,hB,rfl⟩
  have h2:IsFm (impF b a) (.agg [.raw (.int .u8 6),.raw (.string ⟨#[]⟩),.sl ⟨true,.nil,0⟩ [],.sl ⟨true,.full,4⟩ [.agg [.raw (.int .u8 o7),.raw (.string n7),.sl t7 x7,.sl t8 x8],.agg [.raw (.int .u8 o5),.raw (.string n5),.sl t5 x5,.sl t6 x6]]]):=⟨_,_,_,_,rfl,by decide,.inl rfl,rfl,.inr rfl,_,_,rfl,hB,_,_,rfl,hA,rfl⟩
  simp only[go_sem,zE,zB,zA,zM,zL,d4,d5,d6,fits,yQ2 e2,Int.le_refl,le01,Int.toNat_zero,Int.toNat_one,hka,hkb,yQ1,yQe];intros;exact yQ0 ⟨_,_,rfl,.inr rfl,xZq (.inr rfl) (mks2 (mkOf h1) (mkOf h2)),rfl⟩
end Go.Proofs.Tryz
namespace Go.Proofs.Tryz
open Go Go.Iv Go.Shelf Go.RowKit
set_option maxRecDepth 4000
variable (gl:Nat->Option IV)
theorem zQr (a b:ByteArray)(w:World):Calls prog 297 #[.string a,.string b] w λe w'=>e=.returned (.int .i64 (Lib.compareBytes a.data.toList b.data.toList))/\w'=w:=by
 have t9:prog.underlying 9=some .string:=by kernel_rfl
 have a9:∀w,(isAgg 9).run prog w=.ok false w:=run_isAgg_plain t9 rfl;have t3:prog.underlying 3=some (.int .i64):=by kernel_rfl
 have a3:∀w,(isAgg 3).run prog w=.ok false w:=run_isAgg_plain t3 rfl
 go_enter func297,(show _=_ from rfl)
 go_wp2
 rw[run_callFunc_extern func328 (by kernel_rfl) (by kernel_rfl) (by kernel_rfl) (e:=Extern.BytealgCompare.compare) (by kernel_rfl),Lib.run_compareString];simp only[Result.andThen];rw[Oper.upon_value]
 go_wp2
 go_ret
 exact⟨rfl,rfl⟩
theorem yYt:∀x y:List UInt8,Lib.compareBytes x y=if Op.bytesLess x y=true then -1 else if Op.bytesLess y x=true then 1 else 0
 | [],[]=>by simp[Lib.compareBytes,Op.bytesLess]
 | [],_::_=>by simp[Lib.compareBytes,Op.bytesLess]
 | _::_,[]=>by simp[Lib.compareBytes,Op.bytesLess]
 | a::x,b::y=>by
  have ih:=yYt x y;unfold Lib.compareBytes Op.bytesLess;by_cases h1:a<b
  ·have h2:¬ b<a:=λh=>UInt8.lt_irrefl _ (UInt8.lt_trans h1 h);simp[h1]
  ·by_cases h2:b<a
   ·have h3:a≠b:=by rintro rfl;exact UInt8.lt_irrefl _ h2
    simp[h1,h2,h3]
   ·have:a=b:=UInt8.le_antisymm (UInt8.not_lt.1 h2) (UInt8.not_lt.1 h1);subst this;simp[h1,ih]
theorem zK9 (a b:ByteArray)(st:ISt):ICall prog gl 297 [.raw (.string a),.raw (.string b)] st (λr st'=>r=.raw (.int .i64 (cmpB a b))/\st'=st):=by
 intro B X rs hg hst hv;have hr:rs=[.string a,.string b]:=by
  match rs,hv with
  | [r,r'],hv=>rw[V.raw_inv (hv.2 0 r _ rfl rfl),V.raw_inv (hv.2 1 r' _ rfl rfl)]
  | [],hv=>cases hv.1
  | [_],hv=>cases hv.1
  | _::_::_::_,hv=>cases hv.1
 subst hr;refine Calls.mono (zQr a b X.w) ?_;rintro e w' ⟨rfl,rfl⟩;refine⟨_,rfl,X,.raw (.int .i64 (cmpB a b)),rfl,hg,Ext.refl X,?_,rfl,hst⟩;rw[yYt];exact .raw _ trivial
theorem wX8 (a b:ByteArray)(st:ISt):ICall prog gl 257 [.raw (.string a),.raw (.string b)] st (λr st'=>r=.raw (.int .i64 (cmpB a b))/\st'=st):=by
 refine iI func257 ?_;simp only[go_sem,zE,zA,reduceCtorEq];refine (zK9 gl a b _).mono ?_;rintro _ _ ⟨rfl,rfl⟩;simp only[go_sem];exact yQ0 ⟨rfl,rfl⟩
theorem zKw (a:Nat)(st:ISt):ICall prog gl 296 [.raw (.int .u8 a)] st (λr st'=>r=.raw (.bool false)/\st'=st):=by
 refine iI func296 ?_;simp only[go_sem,zE,reduceCtorEq];exact yQ0 ⟨rfl,rfl⟩
theorem xVs (a b:Nat)(st:ISt):ICall prog gl 256 [.raw (.int .u8 a),.raw (.int .u8 b)] st (λr st'=>r=.raw (.int .i64 (cmpN a b))/\st'=st):=by
 refine iI func256 ?_;simp only[go_sem,zA,reduceCtorEq];refine (zKw gl a _).mono ?_;rintro _ _ ⟨rfl,rfl⟩;simp only[go_sem,zE,zA];refine (zKw gl b _).mono ?_;rintro _ _ ⟨rfl,rfl⟩;unfold cmpN;by_cases h1:a<b
 ·simp only[go_sem,zE,reduceCtorEq,lt_i h1];exact yQ0 ⟨by rw[if_pos h1],rfl⟩
 ·by_cases h2:b<a
  ·simp only[go_sem,zE,reduceCtorEq,yQk h1,lt_i h2];exact yQ0 ⟨by rw[if_neg h1,if_pos h2],rfl⟩
  ·simp only[go_sem,zE,reduceCtorEq,yQk h1,yQk h2];exact yQ0 ⟨by rw[if_neg h1,if_neg h2],rfl⟩
theorem xKv (a:Nat)(st:ISt):ICall prog gl 329 [.raw (.int .i64 a)] st (λr st'=>r=.raw (.bool false)/\st'=st):=by
 refine iI func329 ?_;simp only[go_sem,zE,reduceCtorEq];exact yQ0 ⟨rfl,rfl⟩
theorem xKw (a b:Nat)(st:ISt):ICall prog gl 298 [.raw (.int .i64 a),.raw (.int .i64 b)] st (λr st'=>r=.raw (.int .i64 (cmpN a b))/\st'=st):=by
 refine iI func298 ?_;simp only[go_sem,zA,reduceCtorEq];refine (xKv gl a _).mono ?_;rintro _ _ ⟨rfl,rfl⟩;simp only[go_sem,zE,zA];refine (xKv gl b _).mono ?_;rintro _ _ ⟨rfl,rfl⟩;unfold cmpN;by_cases h1:a<b
 ·simp only[go_sem,zE,reduceCtorEq,lt_i h1];exact yQ0 ⟨by rw[if_pos h1],rfl⟩
 ·by_cases h2:b<a
  ·simp only[go_sem,zE,reduceCtorEq,yQk h1,lt_i h2];exact yQ0 ⟨by rw[if_neg h1,if_pos h2],rfl⟩
  ·simp only[go_sem,zE,reduceCtorEq,yQk h1,yQk h2];exact yQ0 ⟨by rw[if_neg h1,if_neg h2],rfl⟩
theorem uZ7 {t:Tm}{x:IV}(h:IsTm t x):∃v n tg xs,x=.agg [.raw (.bool v),.raw (.string n),.sl tg xs]:=h.agg
theorem yUh {α:Type}{f:α->α->Int}{g:List α->List α->Int}(g0:g [] []=0)(g1:∀a b l m,g (a::l) (b::m)=lexI (f a b) (g l m)):∀(l m l' m':List α),l.length=m.length->g (l++l') (m++m')=lexI (g l m) (g l' m')
 | [],[],l',m',_=>by rw[g0];simp[lexI]
 | a::l,b::m,l',m',h=>by
  rw[List.cons_append,List.cons_append,g1,g1,yUh g0 g1 l m l' m' (by simpa using h)];unfold lexI;by_cases h1:f a b=0
  ·simp[h1]
  ·simp[h1]
 | [],_::_,_,_,h=>by simp at h
 | _::_,[],_,_,h=>by simp at h
theorem i0 (x:Int)(h:x=0):decide (x=0)=true:=dEt h
theorem i1 (x:Int)(h:¬ x=0):decide (x=0)=false:=dEf h
def CmpF (a:Fm):Prop:=∀(b:Fm) (x y:IV) (_:IsFm a x) (_:IsFm b y) (st:ISt),ICall prog gl 228 [x,y] st (λr st'=>r=.raw (.int .i64 (yVc a b))/\st'=st)
theorem xQa (o w:Nat)(n m:ByteArray)(sub sub':List Fm):yVc (.mk o n [] sub) (.mk w m [] sub')=lexI (cmpN o w) (lexI (cmpB n m) (lenL yKh sub sub')):=by
 simp only[yVc,xXd,List.length_nil,lenL];simp[lexI,show cmpN 0 0=0 by decide]
theorem wKl (t t':Tag)(st:ISt) :
  ICall prog gl 258 [.sl t [],.sl t' [],.fn (.func 259) [] []] st (λr st'=>r=.raw (.int .i64 0)/\st'=st):=by
 refine iI func258 ?_;simp only[go_sem,zE,zB,zA,zM,zS,zL,reduceCtorEq,List.length_nil];intros;refine (xKw gl 0 0 _).mono ?_;rintro _ st ⟨rfl,rfl⟩;simp only[go_sem,zE,zB,zA,zM,zS,zL,reduceCtorEq,i0 _ (show cmpN 0 0=0 by decide),List.length_nil];intros;refine LoopC.ctr 0 (λk fr st' ds=>fr 19=.iv (.raw (.int .i64 (0:Nat)))/\fr 20=.iv (.raw (.int .i64 k))/\st'=st/\ds=[]) ?_ ?_ ?_
 ·simp only[go_sem,zE,zB,zA,zM,zS,zL,reduceCtorEq]
  first|rfl|exact⟨rfl,rfl⟩
 ·rintro k fr st1 _ hlt;omega
 ·rintro fr st1 _ ⟨f19,f20,rfl,rfl⟩;simp only[go_sem,zE,zB,zA,zM,zS,zL,reduceCtorEq,f19,f20,yQk (nLi _)];exact yQ0 ⟨rfl,rfl⟩
theorem wKo (us:List Fm)(IH:∀a∈us,CmpF gl a)(ws:List Fm)(t t':Tag)(xs ys:List IV)(ht:okEs t 4)(ht':okEs t' 4)(ha:IsFms us xs)(hb:IsFms ws ys)(st:ISt) :
  ICall prog gl 260 [.sl t xs,.sl t' ys,.fn (.func 228) [] []] st (λr st'=>r=.raw (.int .i64 (lenL yKh us ws))/\st'=st):=by
 refine iI func260 ?_;simp only[go_sem,zE,zA,reduceCtorEq,ha.len,hb.len];intro hla hlb;refine (xKw gl us.length ws.length _).mono ?_;rintro _ st ⟨rfl,rfl⟩;unfold lenL;by_cases h0:cmpN us.length ws.length=0
 ·have hlen:=zJy.1 h0;simp only[go_sem,reduceCtorEq,i0 _ h0,ha.len];intro _;refine LoopC.ctr us.length (λk fr st' ds=>yKh (us.take k) (ws.take k)=0/\fr 0=.iv (.sl t xs)/\fr 1=.iv (.sl t' ys)/\fr 2=.iv (.fn (.func 228) [] [])/\fr 19=.iv (.raw (.int .i64 us.length))/\fr 20=.iv (.raw (.int .i64 k))/\st'=st/\ds=[]) ?_ ?_ ?_
  ·simp only[go_sem,zE,reduceCtorEq];exact⟨yWw,rfl⟩
  ·rintro k fr st1 _ hlt ⟨hn,f0,f1,f2,f19,f20,rfl,rfl⟩;obtain⟨a,hka⟩:=yQ3 hlt;obtain⟨b,hkb⟩:=yQ3 (l:=ws) (k:=k) (by omega);obtain⟨x,hkx,hx⟩:=ha.get hka;obtain⟨y,hky,hy⟩:=hb.get hkb;have hcall:=IH a (lMg hka) b x y hx hy st1;have htl:(us.take k).length=(ws.take k).length:=by rw[List.length_take,List.length_take];omega
   obtain⟨x1,x2,x3,x4,x5,x6,rfl⟩:=hx.agg;obtain⟨y1,y2,y3,y4,y5,y6,rfl⟩:=hy.agg;simp only[go_sem,zE,zB,zA,reduceCtorEq,f0,f1,f2,f19,f20,lt_i hlt,yQ2 ht,yQ2 ht',iNn,hkx,hky,fits];refine hcall.mono ?_;rintro _ _ ⟨rfl,rfl⟩;by_cases hc:yVc a b=0
   ·simp only[go_sem,zE,reduceCtorEq,i0 _ hc,f0,f1,f2,f19,f20,yQa hlt (show us.length<=281474976710656 by omega)];rw[yQ8 hka,yQ8 hkb,yUh yWw yWv _ _ _ _ htl,hn,yWv,yWw,hc];simp[lexI]
   ·simp only[go_sem,zE,i1 _ hc];refine yQ0 ⟨?_,rfl⟩;rw[h0];have h2:yKh us ws=yVc a b:=by
     conv=>lhs;rw[<- List.take_append_drop k us,<- List.take_append_drop k ws]
     rw[List.drop_eq_getElem_cons hlt,List.drop_eq_getElem_cons (show k<ws.length by omega),yUh yWw yWv _ _ _ _ htl,hn,yWv,(lGs hka).2,(lGs hkb).2];simp[lexI,hc]
    rw[h2];simp[lexI]
  ·rintro fr st1 _ ⟨hn,f0,f1,f2,f19,f20,rfl,rfl⟩;rw[lTl,show ws.take us.length=ws by rw[hlen,lTl]] at hn;simp only[go_sem,f19,f20,yQk (nLi _)];exact yQ0 ⟨by rw[h0,hn];simp[lexI],rfl⟩
 ·simp only[go_sem,zE,i1 _ h0];exact yQ0 ⟨by simp[lexI,h0],rfl⟩
theorem xQ9 (o:Nat)(n:ByteArray)(us:List Tm)(sub:List Fm)(IH:∀a∈sub,CmpF gl a):CmpF gl (.mk o n us sub):=by
 rintro⟨w,m,ws,sub'⟩ x y hx hy st;obtain⟨t1,x1,t2,x2,rfl,_,e1,i1',e2,i2⟩:=hx.mk;obtain⟨t3,x3,t4,x4,rfl,_,e3,i3,e4,i4⟩:=hy.mk;obtain⟨rfl,rfl⟩:=i1'.z;obtain⟨rfl,rfl⟩:=i3.z;have hl2:=λst=>wKo gl sub IH sub' t2 t4 x2 x4 e2 e4 i2 i4 st;rw[xQa];refine iI func228 ?_;simp only[go_sem,zE,zB,zA,zM,zS,zL,reduceCtorEq];refine (xVs gl o w _).mono ?_;rintro _ _ ⟨rfl,rfl⟩;by_cases h0:cmpN o w=0
 ·simp only[go_sem,zE,zB,zA,zM,zS,zL,reduceCtorEq,i0 _ h0];refine (wX8 gl n m _).mono ?_;rintro _ _ ⟨rfl,rfl⟩;by_cases h1:cmpB n m=0
  ·simp only[go_sem,zE,zB,zA,zM,zS,zL,reduceCtorEq,i0 _ h1];refine (wKl gl t1 t3 _).mono ?_;rintro _ _ ⟨rfl,rfl⟩;simp only[go_sem,zE,zB,zA,zM,zS,zL,reduceCtorEq,decide_true];refine (hl2 _).mono ?_;rintro _ _ ⟨rfl,rfl⟩;simp only[go_sem,zE,zB,zA,zM,zS,zL,reduceCtorEq];refine yQ0 ⟨?_,rfl⟩;rw[h0,h1];simp[lexI]
  ·simp only[go_sem,zE,zB,zA,zM,zS,zL,reduceCtorEq,i1 _ h1];exact yQ0 ⟨by rw[h0];simp[lexI,h1],rfl⟩
 ·simp only[go_sem,zE,zB,zA,zM,zS,zL,reduceCtorEq,i1 _ h0];exact yQ0 ⟨by simp[lexI,h0],rfl⟩
theorem zJz:∀(k:Nat)(t:Fm),SizeOf.sizeOf t<k->CmpF gl t
 | 0,t,h=>by omega
 | k+1,.mk o n us sub,h=>xQ9 gl o n us sub (λa ha=>zJz k a (by
   have:=lSm ha;simp at h;omega))
theorem wZ4 (t:Fm):CmpF gl t:=zJz gl _ t (Nat.lt_succ_self _)
theorem xZb (a b:Fm)(x y:IV)(hx:IsFm a x)(hy:IsFm b y)(st:ISt):ICall prog gl 180 [x,y] st (λr st'=>r=.raw (.bool (decide (yVc a b=0)))/\st'=st):=by
 have hc:=λst=>wZ4 gl a b x y hx hy st;obtain⟨x1,x2,x3,x4,x5,x6,rfl⟩:=hx.agg;obtain⟨y1,y2,y3,y4,y5,y6,rfl⟩:=hy.agg;refine iI func180 ?_;simp only[go_sem,zE,zA,zL];refine (hc _).mono ?_;rintro _ _ ⟨rfl,rfl⟩;simp only[go_sem];exact yQ0 ⟨rfl,rfl⟩
end Go.Proofs.Tryz
namespace Go.Iv
open Go
@[go_sem] theorem vVl (P:Program)(T:TypeId)(a b:ByteArray):binI P T .gtr (.string a) (.string b)=some (.bool (!(Op.bytesLess a.data.toList b.data.toList || decide (a=b)))):=(rfl)
end Go.Iv
namespace Go.Proofs.Tryz
open Go Go.Iv
set_option maxRecDepth 4000
variable (gl:Nat->Option IV)
theorem wJo {a b:ByteArray}(h:Op.bytesLess a.data.toList b.data.toList=false):(!(false || decide (a=b)))=Op.bytesLess b.data.toList a.data.toList:=by
 have he:=(zK0 a).eq b;unfold cmpB at he;rw[h] at he;by_cases hab:a=b
 ·have:=he.2 hab;subst hab;rw[h];simp
 ·cases hb:Op.bytesLess b.data.toList a.data.toList
  ·rw[hb] at he;simp at he;exact absurd he hab
  ·simp[hab]
theorem wGh (a b:ByteArray)(st:ISt):ICall prog gl 294 [.raw (.string a),.raw (.string b)] st (λr st'=>r=.raw (.int .i64 (cmpB a b))/\st'=st):=by
 unfold cmpB;refine iI func294 ?_;cases h:Op.bytesLess a.data.toList b.data.toList
 ·have hn:=wJo h;simp only[go_sem,zE,reduceCtorEq,h,hn];cases h':Op.bytesLess b.data.toList a.data.toList
  ·simp only[go_sem,reduceCtorEq];exact yQ0 ⟨by simp,rfl⟩
  ·simp only[go_sem];exact yQ0 ⟨by simp,rfl⟩
 ·simp only[go_sem,zE,reduceCtorEq,h];exact yQ0 ⟨by simp,rfl⟩
def RCF (a:Fm):Prop:=∀(b:Fm) (x y:IV) (_:IsFm a x) (_:IsFm b y) (st:ISt),ICall prog gl 255 [x,y] st (λr st'=>r=.raw (.int .i64 (yVc a b))/\st'=st)
theorem wJc (t t':Tag)(st:ISt):ICall prog gl 295 [.sl t [],.sl t' []] st (λr st'=>r=.raw (.int .i64 0)/\st'=st):=by
 refine iI func295 ?_;simp only[go_sem,zE,zB,zA,zM,zS,zL,reduceCtorEq,List.length_nil,yQk (nLi 0)];intros;refine LoopC.ctr 0 (λk fr st' ds=>fr 0=.iv (.sl t [])/\fr 5=.iv (.raw (.int .i64 k))/\st'=st/\ds=[]) ?_ ?_ ?_
 ·simp only[go_sem,zE,zB,zA,zM,zS,zL,reduceCtorEq]
  first|rfl|exact⟨rfl,rfl⟩
 ·rintro k fr st1 _ hlt;omega
 ·rintro fr st1 _ ⟨f0,f5,rfl,rfl⟩;simp only[go_sem,zE,zB,zA,zM,zS,zL,reduceCtorEq,f0,f5,List.length_nil,yQk (nLi _)];intros;exact yQ0 ⟨rfl,rfl⟩
theorem zWp (o:Nat)(n:ByteArray)(us:List Tm)(sub:List Fm)(IH:∀a∈sub,RCF gl a):RCF gl (.mk o n us sub):=by
 rintro⟨w,m,ws,sub'⟩ x y hx hy st;obtain⟨t1,x1,t2,x2,rfl,_,e1,i1',ht,ha⟩:=hx.mk;obtain⟨t3,x3,t4,x4,rfl,_,e3,i3,ht',hb⟩:=hy.mk;obtain⟨rfl,rfl⟩:=i1'.z;obtain⟨rfl,rfl⟩:=i3.z;rw[xQa];unfold lenL cmpN;refine iI func255 ?_;by_cases q1:o<w
 ·simp only[go_sem,zE,zB,zA,zM,zS,zL,reduceCtorEq,fits,lt_i q1];exact yQ0 ⟨by simp[q1,lexI],rfl⟩
 simp only[go_sem,zE,zB,zA,zM,zS,zL,reduceCtorEq,fits,show decide (((o:Nat):Int)<w)=false from dEf (by omega)];by_cases q2:w<o
 ·simp only[go_sem,zE,zB,zA,zM,zS,zL,reduceCtorEq,lt_i q2];exact yQ0 ⟨by simp[q1,q2,lexI],rfl⟩
 rw[if_neg q1,if_neg q2];simp only[go_sem,zE,zB,zA,zM,zS,zL,reduceCtorEq,show decide (((w:Nat):Int)<o)=false from dEf (by omega)];by_cases h0:n=m
 case neg =>
  have hz:¬ cmpB n m=0:=λh=>h0 (((zK0 n).eq m).1 h);simp only[go_sem,zE,zB,zA,zM,zS,zL,reduceCtorEq,dEf h0];refine (wGh gl n m _).mono ?_;rintro _ _ ⟨rfl,rfl⟩;simp only[go_sem,zE,zB,zA,zM,zS,zL,reduceCtorEq];exact yQ0 ⟨by simp[lexI,hz],rfl⟩
 have hz:=((zK0 n).eq m).2 h0;rw[hz];simp only[go_sem,zE,zB,zA,zM,zS,zL,reduceCtorEq,dEt h0];refine (wJc gl t1 t3 _).mono ?_;rintro _ st ⟨rfl,rfl⟩;simp only[go_sem,zE,zB,zA,zM,zS,zL,reduceCtorEq,decide_true,ha.len,hb.len];intro hla hlb;by_cases h3:sub.length<sub'.length
 ·simp only[go_sem,zE,zB,zA,zM,zS,zL,reduceCtorEq,lt_i h3];exact yQ0 ⟨by simp[h3,lexI],rfl⟩
 simp only[go_sem,zE,zB,zA,zM,zS,zL,reduceCtorEq,show decide (((sub.length:Nat):Int)<sub'.length)=false from dEf (by omega),ha.len,hb.len];intros;by_cases h4:sub'.length<sub.length
 ·simp only[go_sem,zE,zB,zA,zM,zS,zL,reduceCtorEq,lt_i h4];exact yQ0 ⟨by simp[h3,h4,lexI],rfl⟩
 rw[if_neg h3,if_neg h4];simp only[go_sem,zE,zB,zA,zM,zS,zL,reduceCtorEq,show decide (((sub'.length:Nat):Int)<sub.length)=false from dEf (by omega)];have hlen:sub.length=sub'.length:=by omega
 refine LoopC.ctr sub.length (λk fr st' ds=>yKh (sub.take k) (sub'.take k)=0/\fr 2=.box [.raw (.int .u8 o),.raw (.string n),.sl t1 [],.sl t2 x2]/\fr 3=.box [.raw (.int .u8 w),.raw (.string m),.sl t3 [],.sl t4 x4]/\fr 6=.iv (.raw (.int .i64 k))/\st'=st/\ds=[]) ?_ ?_ ?_
 ·simp only[go_sem,zE,zB,zA,zM,zS,zL,reduceCtorEq];exact⟨yWw,rfl⟩
 ·rintro k fr st1 _ hlt ⟨hn,f2,f3,f6,rfl,rfl⟩;obtain⟨a,hka⟩:=yQ3 hlt;obtain⟨b,hkb⟩:=yQ3 (l:=sub') (k:=k) (by omega);obtain⟨x,hkx,hx⟩:=ha.get hka;obtain⟨y,hky,hy⟩:=hb.get hkb;have hcall:=IH a (lMg hka) b x y hx hy st1;have htl:(sub.take k).length=(sub'.take k).length:=by rw[List.length_take,List.length_take];omega
  have htake:yKh sub sub'=lexI (yKh (sub.take k) (sub'.take k)) (lexI (yVc a b) (yKh (sub.drop (k+1)) (sub'.drop (k+1)))):=by
   conv=>lhs;rw[<- List.take_append_drop k sub,<- List.take_append_drop k sub']
   rw[List.drop_eq_getElem_cons hlt,List.drop_eq_getElem_cons (show k<sub'.length by omega),yUh yWw yWv _ _ _ _ htl,yWv,(lGs hka).2,(lGs hkb).2]
  have hnext:yVc a b=0->yKh (sub.take (k+1)) (sub'.take (k+1))=0:=λhc=>by
   rw[yQ8 hka,yQ8 hkb,yUh yWw yWv _ _ _ _ htl,hn,yWv,yWw,hc];simp[lexI]
  rw[hn] at htake;obtain⟨x1',x2',x3',x4',x5',x6',rfl⟩:=hx.agg;obtain⟨y1',y2',y3',y4',y5',y6',rfl⟩:=hy.agg;simp only[go_sem,zE,zB,zA,zM,zS,zL,reduceCtorEq,f2,f3,f6,ha.len,hb.len,lt_i hlt,yQ2 ht,yQ2 ht',iNn,hkx,hky,fits];intros;refine hcall.mono ?_;rintro _ _ ⟨rfl,rfl⟩;by_cases hc:yVc a b=0
  ·simp only[go_sem,zE,zB,zA,zM,zS,zL,reduceCtorEq,i0 _ hc,f2,f3,f6,yQa hlt (show sub.length<=281474976710656 by omega)];exact hnext hc
  ·simp only[go_sem,zE,zB,zA,zM,zS,zL,reduceCtorEq,i1 _ hc];exact yQ0 ⟨by rw[htake];simp[lexI,hc],rfl⟩
 ·rintro fr st1 _ ⟨hn,f2,f3,f6,rfl,rfl⟩;rw[lTl,show sub'.take sub.length=sub' by rw[hlen,lTl]] at hn;simp only[go_sem,zE,zB,zA,zM,zS,zL,reduceCtorEq,f2,f6,ha.len,yQk (nLi _)];intros;exact yQ0 ⟨by rw[hn];simp[lexI],rfl⟩
theorem zQz:∀(k:Nat)(t:Fm),SizeOf.sizeOf t<k->RCF gl t
 | 0,t,h=>by omega
 | k+1,.mk o n us sub,h=>zWp gl o n us sub (λa ha=>zQz k a (by
   have:=lSm ha;simp at h;omega))
theorem xWd (t:Fm):RCF gl t:=zQz gl _ t (Nat.lt_succ_self _)
end Go.Proofs.Tryz
namespace Go.Iv
open Go
def vW9 (s1:ISt)(y x:IV):Prop:=y=x\/∃x0,OI s1 y x0/\x=age x0
def LentsS (s1:ISt):List IV->List IV->Prop
 | [],xs=>xs=[]
 | y::ys,xs=>∃x xs',xs=x::xs'/\vW9 s1 y x/\LentsS s1 ys xs'
theorem LentsS.v {C:Cx}{X:WS}{s1 s0:ISt}(h:Good C X)(k:LendOk X.st s1 s0):∀ {ys xs:List IV} {rs:List Value},LentsS s1 ys xs->C.vl X rs ys->C.vl (X.lendS s1 s0) rs xs
 | [],xs,rs,hl,hv=>by
  simp only[LentsS] at hl;subst hl;obtain rfl:rs=[]:=List.eq_nil_of_length_eq_zero hv.1;exact VL.nil
 | y::ys,xs,rs,hl,hv=>by
  simp only[LentsS] at hl;obtain⟨x,xs',rfl,hx,hl⟩:=hl;cases rs with
  | nil=>have:=hv.1;simp at this
  | cons r rs =>
   have h1:=hv.2 0 r y rfl rfl;have h2:C.vl X rs ys:=⟨by have:=hv.1;simpa using this,λi a b ha hb=>hv.2 (i+1) a b (by simpa using ha) (by simpa using hb)⟩
   refine VL.cons ?_ (LentsS.v h k hl h2);rcases hx with rfl|⟨x0,ho,rfl⟩
   ·exact (h.lendS_ext k).v h1
   ·exact ho.v h k h1
theorem ICall.frz {P:Program}{gl:Nat->Option IV}{f:FuncId}{args args':List IV}{st s1 s0:ISt}{K:IV->ISt->Prop}(k:LendOk st s1 s0)(hl:LentsS s1 args args')(h:ICall P gl f args' s0 K):ICall P gl f args st K:=by
 intro B X rs hg hst hv;subst hst;refine (h B (X.lendS s1 s0) rs (hg.lendS k) rfl (hl.v hg k hv)).mono ?_;rintro e w' ⟨v,rfl,X',x,h1,h2,h3,h4,h5⟩;exact⟨v,rfl,X',x,h1,h2,(hg.lendS_ext k).trans h3,h4,h5⟩
theorem xKr {st:ISt}{b:Nat}{cs:List IV}(h:st b=some (.box cs)):LendOk st (ISt.put (λ_=>none) b (some (.box cs))) (st.put b none):=by
 refine⟨λc o hc=>?_,λc o hc=>?_,λc cs' hc=>?_⟩
 ·rw[ISt.put_apply] at hc;grind
 ·rw[ISt.put_apply] at hc;grind
 ·rw[ISt.put_apply] at hc ⊢;grind
theorem LentsS.same (s1:ISt):∀l:List IV,LentsS s1 l l
 | []=>rfl
 | a::l=>⟨a,l,rfl,.inl rfl,LentsS.same s1 l⟩
theorem ICall.frz1 {P:Program}{gl:Nat->Option IV}{f:FuncId}{b:Nat}{cs args:List IV}{st:ISt}{K:IV->ISt->Prop}(hb:st b=some (.box cs))(h:ICall P gl f (.cptr (.agg (ages cs))::args) (st.put b none) K) :
  ICall P gl f (.raw (.pointer (some ⟨b,0,none⟩))::args) st K:=by
 refine ICall.frz (xKr hb) ⟨_,_,rfl,.inr ⟨.cptr (.agg cs),?_,by simp only[age]⟩,LentsS.same _ _⟩ h;exact .ptr b (.agg cs) cs (ISt.put_same ..) rfl λi r c hr hc=>by
   rw[show (IV.agg cs).cells=cs from rfl,hr] at hc;cases hc;exact .refl _
theorem LentsS.last {s1:ISt}{y x:IV}(h:vW9 s1 y x):∀l:List IV,LentsS s1 (l++[y]) (l++[x])
 | []=>⟨x,[],rfl,h,rfl⟩
 | a::l=>⟨a,l++[x],rfl,.inl rfl,LentsS.last h l⟩
theorem ICall.frzSl {P:Program}{gl:Nat->Option IV}{f:FuncId}{pre:List IV}{g n cap es:Nat}{cs zs:List IV}{st:ISt}{K:IV->ISt->Prop}(hst:st g=some (.box cs))(hn:zs.length=n)(hcap:n<=cap)(hroom:cap*es<=cs.length)
  (hz:∀z∈zs,z.cells.length=es) (hcs:cs.take (n*es)=zs.flatMap IV.cells) (hlen:n<=140737488355328) (h:ICall P gl f (pre++[.sl ⟨false,.app g,es⟩ (ages zs)]) (st.put g none) K) :
  ICall P gl f (pre++[.raw (.slice (some ⟨g,0,none⟩) n cap)]) st K:=by
 subst hn;refine ICall.frz (xKr hst) (LentsS.last (.inr ⟨.sl ⟨true,.app g,es⟩ zs,?_,by simp only[age]⟩) pre) h;refine .sl g cap ⟨true,.app g,es⟩ zs cs rfl hlen hcap hz (ISt.put_same ..) hroom λi r c hr hc=>?_;have hi:i<zs.length*es:=by
  grind
 have:(cs.take (zs.length*es))[i]?=cs[i]?:=by rw[List.getElem?_take,if_pos hi]
 rw[hcs,hc,hr] at this;cases this;exact .refl _
end Go.Iv
namespace Go.Proofs.Tryz
open Go Go.Iv
set_option maxRecDepth 4000
variable (gl:Nat->Option IV)
theorem wVd (g:FuncId)(caps:List IV)(he:entI prog g=true)(us:List Mk)(p:Mk->Bool)(st:ISt)(hp:∀a∈us,∀x,IsMk a x->ICall prog gl g (x::caps) st (λr st'=>r=.raw (.bool (p a))/\st'=st))
  (tg:Tag) (xs:List IV) (htg:okEs tg 6) (hxs:IsMks us xs) :
  ICall prog gl 254 [.sl tg xs,.fn (.func g) [] caps] st (λr st'=>(∃n:Int,r=.raw (.int .i64 n)/\decide (0<=n)=us.any p)/\st'=st):=by
 refine iI func254 ?_;simp only[go_sem,reduceCtorEq,hxs.len];intro _;refine LoopC.ctr us.length (λk fr st' ds=>(us.take k).any p=false/\fr 0=.iv (.sl tg xs)/\fr 1=.iv (.fn (.func g) [] caps)/\fr 7=.iv (.raw (.int .i64 us.length))/\fr 8=.iv (.raw (.int .i64 k))/\st'=st/\ds=[]) ?_ ?_ ?_
 ·simp only[go_sem,zE,reduceCtorEq];exact⟨rfl,rfl⟩
 ·rintro k fr st1 _ hlt ⟨hn,f0,f1,f7,f8,rfl,rfl⟩;obtain⟨a,ha⟩:=yQ3 hlt;obtain⟨y,hky,hy⟩:=hxs.get ha;have hcall:=hp a (lMg ha) y hy;obtain⟨_,_,_,_,_,_,rfl⟩:=hy.agg;simp only[go_sem,zE,zB,zA,reduceCtorEq,f0,f1,f7,f8,lt_i hlt,yQ2 htg,iNn,hky,fits,he];refine hcall.mono ?_;rintro _ _ ⟨rfl,rfl⟩;cases hr:p a
  ·simp only[go_sem,zE,reduceCtorEq,f0,f1,f7,f8,yQa hlt (show us.length<=281474976710656 by omega)];rw[yQ8 ha,List.any_append,hn];simp[hr]
  ·simp only[go_sem,zE];refine yQ0 ⟨⟨_,rfl,?_⟩,rfl⟩;rw[dEt (iNn k)];exact (List.any_eq_true.2 ⟨a,lMg ha,hr⟩).symm
 ·rintro fr st1 _ ⟨hn,f0,f1,f7,f8,rfl,rfl⟩;rw[lTl] at hn;simp only[go_sem,f7,f8,yQk (nLi _)];exact yQ0 ⟨⟨_,rfl,by rw[hn];rfl⟩,rfl⟩
theorem yU2 (g:FuncId)(caps:List IV)(he:entI prog g=true)(us:List Mk)(p:Mk->Bool)(st:ISt)(hp:∀a∈us,∀x,IsMk a x->ICall prog gl g (x::caps) st (λr st'=>r=.raw (.bool (p a))/\st'=st))
  (tg:Tag) (xs:List IV) (htg:okEs tg 6) (hxs:IsMks us xs) :
  ICall prog gl 218 [.sl tg xs,.fn (.func g) [] caps] st (λr st'=>r=.raw (.bool (us.any p))/\st'=st):=by
 refine iI func218 ?_;simp only[go_sem,zE,zA,reduceCtorEq];refine (wVd gl g caps he us p _ hp tg xs htg hxs).mono ?_;rintro _ _ ⟨⟨n,rfl,hn⟩,rfl⟩;simp only[go_sem,hn];exact yQ0 ⟨rfl,rfl⟩
theorem vJv {a b:Mk}(h:a.f.op≠b.f.op):decide (yVc a.f b.f=0)=false:=dEf λhc=>h (by rw[(zYj _ _).1 hc])
theorem wZa (a m:Mk)(y x:IV)(hy:IsMk a y)(hx:IsMk m x)(st:ISt):ICall prog gl 222 [y,.cptr x] st (λr st'=>r=.raw (.bool (mkB a m))/\st'=st):=by
 obtain⟨i,w,f⟩:=a;obtain⟨i',w',f'⟩:=m;obtain⟨o5,n5,t5,x5,t6,x6,rfl,h1⟩:=hy;obtain⟨o7,n7,t7,x7,t8,x8,rfl,h2⟩:=hx;have hs:=λst=>xZb gl f f' _ _ h1 h2 st;have hop:mkB ⟨i,w,f⟩ ⟨i',w',f'⟩=(i == i'&&decide (w=w')&&decide (o5=o7)&&decide (yVc f f'=0)):=by
  have e1:=h1;have e2:=h2;obtain⟨o,n,us,sub⟩:=f;obtain⟨o',n',us',sub'⟩:=f';obtain⟨_,_,_,_,he,_⟩:=e1.mk;obtain⟨_,_,_,_,he',_⟩:=e2.mk;simp only[IV.agg.injEq,List.cons.injEq,IV.raw.injEq,Value.int.injEq,true_and] at he he';rw[he.1,he'.1];unfold mkB;by_cases ho:o=o'
  ·subst ho;simp
  ·rw[vJv (a:=⟨i,w,.mk o n us sub⟩) (b:=⟨i',w',.mk o' n' us' sub'⟩) ho,Bool.and_false,Bool.and_false]
 rw[hop];refine iI func222 ?_;by_cases hi:i=i'
 ·subst hi;by_cases hw:w=w'
  ·subst hw;by_cases ho:o5=o7
   ·subst ho;simp only[go_sem,zE,zB,zA,zL,fits,decide_true];refine (hs _).mono ?_;rintro _ _ ⟨rfl,rfl⟩;simp only[go_sem,zE];exact yQ0 ⟨by simp,rfl⟩
   ·simp only[go_sem,zE,zB,zA,zL,fits,decide_true,dEf ho];exact yQ0 ⟨by simp[],rfl⟩
  ·simp only[go_sem,zE,zA,fits,dEf hw];exact yQ0 ⟨by simp[],rfl⟩
 ·have hb:(i == i')=false:=by simp[hi]
  simp only[go_sem,zE,fits,hb];exact yQ0 ⟨rfl,rfl⟩
def appN (n:Nat)(t:Tag):Prop:=(n=0/\t.cap=.nil)\/(0<n/\∃g,t.cap=.app g)
theorem zZx:∀ {l:List Mk}{xs:List IV},IsMks l xs->xs.all (fits true 6)=true
 | [],_,rfl=>rfl
 | a::l,_,⟨y,ys,rfl,hy,h⟩=>by
  obtain⟨_,_,_,_,_,_,rfl⟩:=hy.agg;rw[List.all_cons,zZx h];simp[fits,IV.one]
def brI (tb:Nat)(t:Tag)(xs:List IV)(t':Tag)(v:Int):List IV:=[.raw (.int .u8 1),.raw (.map (some tb)),.sl t xs,.sl t' [.raw (.int .i64 v)]]
def IsBr (l:List Mk)(tb:Nat)(x:IV):Prop:=∃t xs t' v,x=.agg (brI tb t xs t' v)/\okEs t 6/\appN l.length t/\IsMks l xs/\okEs t' 1/\t'.cap≠.nil
theorem wZ8 (l:List Mk)(tb:Nat)(x:IV)(hx:IsBr l tb x)(m:Mk)(y:IV)(hy:IsMk m y)(st:ISt):ICall prog gl 169 [.cptr x,y] st (λr st'=>r=.raw (.bool (hasT l m))/\st'=st):=by
 obtain⟨t,xs,t',v,rfl,ht,_,hxs,_⟩:=hx;have h1:=λst=>yU2 gl 222 [.cptr y] (by simp only[go_sem]) l (λa=>mkB a m) st (λa _ x hx=>wZa gl a m x y hx hy st) t xs ht hxs;obtain⟨_,_,_,_,_,_,rfl⟩:=hy.agg;refine ICall.intro (c:=cf prog gl [] [] [3]) func169 rfl (by show _<=11;simp) (by kernel_rfl) ?_;simp only[go_sem,zE,zA,reduceCtorEq,fits,brI];refine (h1 _).mono ?_;rintro _ _ ⟨rfl,rfl⟩;simp only[go_sem];exact yQ0 ⟨rfl,rfl⟩
theorem vVq (l:List Mk)(tb b:Nat)(t:Tag)(xs:List IV)(t':Tag)(v:Int)(ht:okEs t 6)(hxs:IsMks l xs)(m:Mk)(y:IV)(hy:IsMk m y)(st:ISt)(hb:st b=some (.box (brI tb t xs t' v))) :
  ICall prog gl 169 [.raw (.pointer (some ⟨b,0,none⟩)),y] st (λr st'=>r=.raw (.bool (hasT l m))/\st'=st):=by
 have h1:=λst=>yU2 gl 222 [.cptr y] (by simp only[go_sem]) l (λa=>mkB a m) st (λa _ x hx=>wZa gl a m x y hx hy st) t xs ht hxs;obtain⟨_,_,_,_,_,_,rfl⟩:=hy.agg;unfold brI at hb;refine ICall.intro (c:=cf prog gl [] [] [3]) func169 rfl (by show _<=11;simp) (by kernel_rfl) ?_;simp only[go_sem,zE,zA,reduceCtorEq,hb];refine (h1 _).mono ?_;rintro _ _ ⟨rfl,rfl⟩;simp only[go_sem];exact yQ0 ⟨rfl,rfl⟩
theorem xQj (l:List Mk)(tb:Nat)(x:IV)(hx:IsBr l tb x)(m:Mk)(y:IV)(hy:IsMk m y)(st:ISt):ICall prog gl 145 [.cptr x,y] st (λr st'=>r=.raw (.bool (yKn l m))/\st'=st):=by
 obtain⟨i,w,f⟩:=m;have hy0:=hy;obtain⟨o5,n5,t5,x5,t6,x6,rfl,h1⟩:=hy;have hop:(f.op:Int)=o5:=by
  obtain⟨o,n,us,sub⟩:=f;obtain⟨_,_,_,_,he,_⟩:=h1.mk;simp only[IV.agg.injEq,List.cons.injEq,IV.raw.injEq,Value.int.injEq,true_and] at he;exact he.1.symm
 have hh:=λst=>wZ8 gl l tb x hx ⟨!i,w,f⟩ _ ⟨_,_,_,_,_,_,rfl,h1⟩ st;unfold yKn;refine iI func145 ?_;cases i
 ·simp only[go_sem,zE,zA,zL,reduceCtorEq,fits];refine (hh _).mono ?_;rintro _ _ ⟨rfl,rfl⟩;simp only[go_sem,zE];exact yQ0 ⟨by simp,rfl⟩
 ·by_cases ho:o5=2
  ·simp only[go_sem,zE,zA,dEt ho];exact yQ0 ⟨by simp[show f.op=2 by omega],rfl⟩
  ·simp only[go_sem,zE,zA,zL,reduceCtorEq,fits,dEf ho];refine (hh _).mono ?_;rintro _ _ ⟨rfl,rfl⟩;simp only[go_sem,zE];exact yQ0 ⟨by simp[show ¬ f.op=2 by omega],rfl⟩
def BrSt (S0:ISt)(b tb:Nat)(l:List Mk)(t':Tag)(v:Int)(st:ISt):Prop:=∃t xs,st b=some (.box (brI tb t xs t' v))/\IsMks l xs/\own st t l.length 6 S0/\appN l.length t/\subSt S0 st/\S0 b=none
theorem wZe (S0:ISt)(b tb:Nat)(l:List Mk)(t':Tag)(v:Int)(st:ISt)(hs:BrSt S0 b tb l t' v st)(hl:l.length<=1000000)(m:Mk)(y:IV)(hy:IsMk m y) :
  ICall prog gl 97 [.raw (.pointer (some ⟨b,0,none⟩)),y] st (λ_ st'=>BrSt S0 b tb (addT l m) t' v st'):=by
 obtain⟨t,xs,hb,hxs,hown,hap,hsub,hS⟩:=hs;have hh:=vVq gl l tb b t xs t' v hown.es hxs m y hy st hb;have hy0:=hy;obtain⟨o5,n5,t5,x5,t6,x6,rfl,h1⟩:=hy;unfold addT;refine ICall.intro (c:=cf prog gl [12] []) func97 rfl (by show _<=18;simp) (by kernel_rfl) ?_;simp only[go_sem,zE,zA,zL,reduceCtorEq];refine hh.mono ?_;rintro _ st ⟨rfl,rfl⟩;cases hq:hasT l m
 ·unfold brI at hb;simp only[go_sem,zE,zA,zM,zL,reduceCtorEq,fits,hb,yQ1];refine yZb hown hxs.len hsub rfl (by simp[fits,IV.one]) (by simp only;omega) (by omega) λtg2 st4 hown2 hsub4 hk hap2=>?_;have hb4:=hk b _ hb (λn h=>by cases h);simp only[go_sem,zE,zA,zL,hb4];refine yQ0 ⟨tg2,_,ISt.put_same ..,hxs.append (IsMks.one hy0),?_,.inr ⟨by simp,?_⟩,yQq hsub4 hS,hS⟩
  ·rw[lLa];exact hown2.mono λg hg hg0=>by
    rw[yQ9 (λhc=>?_)]
    ·exact hg
    ·rw[hc,hb4] at hg;cases hg
  ·rcases hap2 with h|⟨_,_,h⟩
   ·rcases hown2 with⟨h0,_⟩|rfl|⟨g,rfl,_⟩
    ·omega
    ·cases h
    ·cases h
   ·exact h
 ·simp only[go_sem];exact yQ0 ⟨t,xs,hb,hxs,hown,hap,hsub,hS⟩
theorem wVe (l:List Mk)(t:Tag)(xs:List IV)(ht:okEs t 6)(ha:appN l.length t)(hxs:IsMks l xs)(hl:l.length<=1000000)(st:ISt) :
  ICall prog gl 151 [.sl t xs] st (λr st'=>∃t' ,r=.sl t' xs/\own st' t' l.length 6 st/\appN l.length t'/\subSt st st'):=by
 have hlen:=hxs.len;have hall:xs.all (fits true 6)=true:=zZx hxs;rcases ha with⟨h0,hc⟩|⟨h0,g,hc⟩
 ·obtain⟨fs,c,es⟩:=t;obtain rfl:c=.nil:=hc;obtain rfl:xs=[]:=List.eq_nil_of_length_eq_zero (by omega);have hb:binV prog 58 .eql (.sl ⟨fs,.nil,es⟩ []) (.sl ⟨true,.nil,0⟩ [])=some (.raw (.bool true)):=by
   have:yVj prog 58=true:=by kernel_rfl
   simp[binV,zQ0,this]
  refine iI func151 ?_;simp only[go_sem,reduceCtorEq,hb];exact yQ0 ⟨_,rfl,.inl ⟨h0,rfl⟩,.inl ⟨h0,rfl⟩,subSt.refl _⟩
 ·obtain⟨fs,c,es⟩:=t;obtain rfl:c=.app g:=hc;have hb:binV prog 58 .eql (.sl ⟨fs,.app g,es⟩ xs) (.sl ⟨true,.nil,0⟩ [])=some (.raw (.bool false)):=by
   have:yVj prog 58=true:=by kernel_rfl
   simp[binV,zQ0,this]
  refine iI func151 ?_;obtain⟨x,xs',rfl⟩:∃x xs',xs=x::xs':=by
   cases xs with
   | nil=>rw[List.length_nil] at hlen;omega
   | cons x xs'=>exact⟨_,_,rfl⟩
  simp only[go_sem,zE,zB,zA,zM,zL,reduceCtorEq,fits,hb,show yZk 0 []=true from rfl];rw[List.length_cons] at hlen;refine yZg hall (yZg ⟨by omega,by omega⟩ λg'=>yQf λhg=>?_);exact yQ0 ⟨_,rfl,.inr (.inr ⟨g',rfl,by rw[ISt.put_same,hlen],hg⟩),.inr ⟨h0,g',rfl⟩,yQz hg⟩
theorem wK7 (t:Tag)(v:Int)(ht:t.cap≠.nil)(st:ISt):ICall prog gl 113 [.sl t [.raw (.int .i64 v)]] st (λr st'=>∃t',r=.sl t' [.raw (.int .i64 v)]/\okEs t' 1/\t'.cap≠.nil/\st'=st):=by
 have hb:binV prog 59 .eql (.sl t [.raw (.int .i64 v)]) (.sl ⟨true,.nil,0⟩ [])=some (.raw (.bool false)):=by
  have:yVj prog 59=true:=by kernel_rfl
  obtain⟨fs,c,es⟩:=t;cases c<;>first|exact absurd rfl ht|simp[binV,zQ0,this]
 refine iI func113 ?_;simp only[go_sem,zE,zA,zM,zL,reduceCtorEq,fits,hb,show yZk 0 []=true from rfl];refine λg'=>yQf λhg=>?_;exact yQb (yQz hg) ⟨_,rfl,.inr rfl,by simp,rfl⟩
theorem zQp (l q:List Mk)(a:Mk):yQu l (q++[a])=addT (yQu l q) a:=by unfold yQu;rw[List.foldl_append];rfl
theorem yZc:∀(q l:List Mk),(yQu l q).length<=l.length+q.length
 | [],l=>by simp[yQu]
 | a::q,l=>by
  have h1:=yZc q (addT l a);have h2:=wV0 (l:=l) (m:=a);show (yQu (addT l a) q).length<=_;rw[List.length_cons];omega
theorem BrSt.br {S0 st:ISt}{b tb:Nat}{l:List Mk}{t':Tag}{v:Int}(h:BrSt S0 b tb l t' v st)(ht:okEs t' 1)(hc:t'.cap≠.nil):subSt S0 st/\∃t xs,st b=some (.box (brI tb t xs t' v))/\IsBr l tb (.agg (brI tb t xs t' v)):=by
 obtain⟨t,xs,hb,hxs,hown,hap,hsub,_⟩:=h;exact⟨hsub,t,xs,hb,t,xs,t',v,rfl,hown.es,hap,hxs,ht,hc⟩
def xGb (X:IV)(tb:Nat)(t:Tag)(xs:List IV)(t':Tag)(v:Int)(t2 t3:Tag)(b:Nat):List (Nat×IV) :=
 [(10,.cptr X),(11,.cptr X),(12,.cptr (.agg [.raw (.int .u8 1),.raw (.map (some tb))])),(13,.agg [.raw (.int .u8 1),.raw (.map (some tb))]),(14,.cptr X),(15,.cptr X),(16,.cptr (.sl t xs)),(17,.sl t xs),(18,.sl t2 xs),
  (19,.cptr X),(20,.cptr X),(21,.cptr (.sl t' [.raw (.int .i64 v)])),(22,.sl t' [.raw (.int .i64 v)]),(23,.sl t3 [.raw (.int .i64 v)]),(24,.agg (brI tb t2 xs t3 v)),(7,.raw (.pointer (some ⟨b,0,none⟩)))]
def dstB (i:Nat):Nat:=if i=15 then 7 else 10+i
theorem yKa {X:IV}{tb:Nat}{t:Tag}{xs:List IV}{t':Tag}{v:Int}{t2 t3:Tag}{b i d:Nat}{z:IV}(h:(xGb X tb t xs t' v t2 t3 b)[i]?=some (d,z)):i<16/\d=dstB i:=by
 have hi:i<16:=(lGs h).1;refine⟨hi,?_⟩;rcases (show i=0\/i=1\/i=2\/i=3\/i=4\/i=5\/i=6\/i=7\/i=8\/i=9\/i=10\/i=11\/i=12\/i=13\/i=14\/i=15 by omega) with rfl|rfl|rfl|rfl|rfl|rfl|rfl|rfl|rfl|rfl|rfl|rfl|rfl|rfl|rfl|rfl<;>cases h<;>rfl
def boxZ:List IV:=[.raw (.int .u8 0),.raw (.map none),.sl ⟨true,.nil,0⟩ [],.sl ⟨true,.nil,0⟩ []]
def FB (X:IV)(tg:Tag)(zs ym:List IV)(fr:Fr):Prop:=fr 0=.iv (.cptr X)/\fr 2=.iv (.sl tg zs)/\fr 4=.box ym/\fr 6=.box boxZ
theorem FB.put {X:IV}{tg:Tag}{zs ym:List IV}{fr:Fr}(h:FB X tg zs ym fr){d:Nat}(hd:7<=d)(z:SV):FB X tg zs ym (fr.put d z):=by
 obtain⟨h1,h2,h3,h4⟩:=h;refine⟨?_,?_,?_,?_⟩<;>rw[Fr.put_apply,if_neg (by omega)]<;>assumption
def BelJ (X:IV)(tb:Nat)(t:Tag)(xs:List IV)(t':Tag)(v:Int)(n:Nat)(tg:Tag)(zs ym:List IV)(st:ISt)(listed:Array Bool):Kt:=λad fr st' ds=>(∀s,ad s=none)/\ds=[]/\FB X tg zs ym fr/\∃t2 t3 b s1,
 ((listed.getD 8 false=true/\own s1 t2 n 6 st/\appN n t2/\subSt st s1)\/(listed.getD 8 false=false/\s1=st)) /\
 (listed.getD 13 false=true->okEs t3 1/\t3.cap≠.nil) /\
 ((listed.getD 15 false=true/\s1 b=none/\st'=s1.put b (some (.box (if listed.getD 16 false=true then brI tb t2 xs t3 v else boxZ))))\/(listed.getD 15 false=false/\st'=s1)) /\
 (listed.getD 16 false=true->listed.getD 14 false=true/\listed.getD 15 false=true)/\(listed.getD 14 false=true->listed.getD 13 false=true/\listed.getD 8 false=true) /\
 ∀i,listed.getD i false=true->∀d z,(xGb X tb t xs t' v t2 t3 b)[i]?=some (d,z)->fr d=.iv z
theorem wKj {i j:Nat}(hi:i<16)(hj:j<16)(h:dstB i=dstB j):i=j:=by
 unfold dstB at h;split at h<;>split at h<;>omega
theorem yKw {L L':List (Nat×IV)}(hL:∀i d z,L'[i]?=some (d,z)->i<16/\d=dstB i){i d:Nat}{z:IV}{listed:Array Bool}{fr:Fr}(hz:listed.size=17)(hi:i<16)(hs:L'[i]?=some (d,z))(hk:∀j,j≠i->listed.getD j false=true->L'[j]?=L[j]?)
  (h:∀j,listed.getD j false=true->∀d z,L[j]?=some (d,z)->fr d=.iv z) :
  ∀j,(listed.setIfInBounds i true).getD j false=true->∀d' z',L'[j]?=some (d',z')->fr.put d (.iv z) d'=.iv z':=by
 intro j hl d' z' hs';rw[Fr.put_apply];by_cases hij:i=j
 ·subst hij;rw[hs] at hs';cases hs';rw[if_pos rfl]
 ·obtain⟨hj,rfl⟩:=hL j d' z' hs';obtain⟨_,rfl⟩:=hL i d z hs;rw[if_neg (λhc=>hij (wKj hi hj hc.symm))];rw[yQo (by omega),if_neg hij] at hl;exact h j hl _ _ (by rw[<- hk j (Ne.symm hij) hl];exact hs')
theorem zQq {ad:Ad}(h:∀s,ad s=none)(d:Nat):∀s,ad.put d none s=none:=λs=>by
 rw[Ad.put_apply,h s];split<;>rfl
theorem yJi {X:IV}{tb:Nat}{t:Tag}{xs:List IV}{t':Tag}{v:Int}{n:Nat}{tg:Tag}{zs ym:List IV}{st st1:ISt}{listed:Array Bool}{ad:Ad}{fr:Fr}{ds:List Dfd}{i d:Nat}{z:IV}(hz:listed.size=17)
  (h:BelJ X tb t xs t' v n tg zs ym st listed ad fr st1 ds) (h1:i<13) (h2:i≠8) (hs:∀t2 t3 b,(xGb X tb t xs t' v t2 t3 b)[i]?=some (d,z)):BelJ X tb t xs t' v n tg zs ym st (listed.setIfInBounds i true) (ad.put d none) (fr.put d (.iv z)) st1 ds:=by
 obtain⟨had,rfl,hF,t2,t3,b,s1,a1,a2,a3,a4,a5,a6⟩:=h;have hd:=(yKa (hs t2 t3 b)).2;have st':∀j,i≠j->(listed.setIfInBounds i true).getD j false=listed.getD j false:=λj hj=>by rw[yQo (by omega),if_neg hj]
 refine⟨zQq had _,rfl,hF.put (by rw[hd];unfold dstB;split<;>omega) _,t2,t3,b,s1,?_,?_,?_,?_,?_,yKw (λ_ _ _ h=>yKa h) hz (by omega) (hs t2 t3 b) (λ_ _ _=>rfl) a6⟩
 ·rw[st' 8 (by omega)];exact a1
 ·rw[st' 13 (by omega)];exact a2
 ·rw[st' 15 (by omega),st' 16 (by omega)];exact a3
 ·rw[st' 14 (by omega),st' 15 (by omega),st' 16 (by omega)];exact a4
 ·rw[st' 14 (by omega),st' 13 (by omega),st' 8 (by omega)];exact a5
theorem wJj {st2 st:ISt}{t:Tag}{n s b:Nat}{o:IObj}(h:own st2 t n s (st.put b (some o))):own (st2.put b none) t n s st:=by
 rcases h with h|h|⟨g,h1,h2,h3⟩
 ·exact .inl h
 ·exact .inr (.inl h)
 ·have hg:g≠b:=λhc=>by rw[hc,ISt.put_same] at h3;cases h3
  exact .inr (.inr ⟨g,h1,by rw[yQ9 hg];exact h2,by rw[yQ9 hg] at h3;exact h3⟩)
theorem wXs {st2 st:ISt}{b:Nat}{o:IObj}(h:subSt (st.put b (some o)) st2)(hb:st b=none):subSt st (st2.put b none):=λc x hc=>by
 have hcb:c≠b:=λhq=>by rw[hq,hb] at hc;cases hc
 rw[yQ9 hcb];exact h c x (by rw[yQ9 hcb];exact hc)
theorem wJh {st2:ISt}{b:Nat}{o:IObj}(h:st2 b=some o):(st2.put b none).put b (some o)=st2:=by
 funext c;simp only[ISt.put_apply];split
 ·subst_vars;exact h.symm
 ·rfl
theorem zZq {X:IV}{tb:Nat}{t:Tag}{xs:List IV}{t':Tag}{v:Int}{t2 t3 t2' t3':Tag}{b b':Nat}(j:Nat)(h8:t2=t2'\/(j≠8/\j≠14))(h13:t3=t3'\/(j≠13/\j≠14))(h15:b=b'\/j≠15):(xGb X tb t xs t' v t2 t3 b)[j]?=(xGb X tb t xs t' v t2' t3' b')[j]?:=by
 by_cases hj:j<16
 ·rcases (show j=0\/j=1\/j=2\/j=3\/j=4\/j=5\/j=6\/j=7\/j=8\/j=9\/j=10\/j=11\/j=12\/j=13\/j=14\/j=15 by omega) with rfl|rfl|rfl|rfl|rfl|rfl|rfl|rfl|rfl|rfl|rfl|rfl|rfl|rfl|rfl|rfl
  all_goals first|rfl|(simp at h8 h13 h15;subst_vars;rfl)
 ·rw[List.getElem?_eq_none (by show 16<=j;omega),List.getElem?_eq_none (by show 16<=j;omega)]
theorem wZc (l:List Mk)(tb:Nat)(x:IV)(hx:IsBr l tb x)(m:Mk)(y:IV)(hy:IsMk m y)(hm:m.f.op<=7)(q:List Mk)(tg:Tag)(zs:List IV)(htg:okEs tg 6)(hzs:IsMks q zs)(hl:l.length+q.length<=1000000)(st:ISt)(es:List (Value×IV))(hb:st tb=some (.map .sg es))(ht:zZn es) :
  ICall prog gl 94 [.cptr x,y,.sl tg zs] st (λr st'=>IsBr (yQu l q) tb r/\st'=st):=by
 obtain⟨t,xs,t',v,rfl,ht6,hap,hxs,ht1,htc⟩:=hx;have hfind:=λst hb=>zXm gl m y hy st tb es hb ht;have hk4:decide (((yZd m).1:Int)=4)=false:=dEf (by
  by_cases h0:(yZd m).1=0
  ·omega
  ·obtain⟨r,hr,_,hT⟩:=yKf h0;have:=(yUv gl hr hm).2.2.1;rw[hT];omega)
 obtain⟨oy,ny,ty,xy,ty',xy',rfl⟩:=hy.agg;refine ICall.intro (c:=cf prog gl [7] [(1,[])]) func94 rfl (by show _<=51;simp) (by kernel_rfl) ?_;simp only[go_sem,zE,brI];rw[yKg];refine yJ9 (BelJ (.agg (brI tb t xs t' v)) tb t xs t' v l.length tg zs [.raw (.bool m.is),.raw (.int .i64 m.w),.raw (.int .u8 oy),.raw (.string ny),.sl ty xy,.sl ty' xy'] st) ?_ ?_ _ _ _ _ _ _ rfl ?_
 ·intro listed ad fr st1 ds hz hJ i hi;replace hz:listed.size=17:=hz;obtain⟨h0,o,ho,hdep⟩:=mem_ready.1 hi;have his:i<17:=(Array.getElem?_eq_some_iff.1 ho).1;have hfl:listed.getD i false=false:=by
   rw[Array.getD_eq_getD_getElem?,Array.getElem?_eq_getElem (by omega)] at h0 ⊢;exact h0
  have hJ':=hJ;obtain⟨had,rfl,hF,t2,t3,b,s1,a1,a2,a3,a4,a5,a6⟩:=hJ';rcases (show i=0\/i=1\/i=2\/i=3\/i=4\/i=5\/i=6\/i=7\/i=8\/i=9\/i=10\/i=11\/i=12\/i=13\/i=14\/i=15\/i=16 by omega) with rfl|rfl|rfl|rfl|rfl|rfl|rfl|rfl|rfl|rfl|rfl|rfl|rfl|rfl|rfl|rfl|rfl
  all_goals obtain rfl:=Option.some.inj ho
  ·simp only[go_sem,yQ5,hF.1];exact yJi hz hJ (by decide) (by decide) λ_ _ _=>rfl
  ·have d1:=hdep ⟨0,.data⟩ (by simp) rfl;have f1:=a6 0 d1 _ _ rfl;simp only[go_sem,yQ5,f1];exact yJi hz hJ (by decide) (by decide) λ_ _ _=>rfl
  ·have d1:=hdep ⟨1,.data⟩ (by simp) rfl;have f1:=a6 1 d1 _ _ rfl;simp only[go_sem,zB,yQ5,had,f1,fits];exact yJi hz hJ (by decide) (by decide) λ_ _ _=>rfl
  ·have d1:=hdep ⟨2,.data⟩ (by simp) rfl;have f1:=a6 2 d1 _ _ rfl;simp only[go_sem,zA,yQ5,had,f1,fits];exact yJi hz hJ (by decide) (by decide) λ_ _ _=>rfl
  ·simp only[go_sem,yQ5,hF.1];exact yJi hz hJ (by decide) (by decide) λ_ _ _=>rfl
  ·have d1:=hdep ⟨4,.data⟩ (by simp) rfl;have f1:=a6 4 d1 _ _ rfl;simp only[go_sem,yQ5,f1];exact yJi hz hJ (by decide) (by decide) λ_ _ _=>rfl
  ·have d1:=hdep ⟨5,.data⟩ (by simp) rfl;have f1:=a6 5 d1 _ _ rfl;simp only[go_sem,yQ5,had,f1,fits];exact yJi hz hJ (by decide) (by decide) λ_ _ _=>rfl
  ·have d1:=hdep ⟨6,.data⟩ (by simp) rfl;have f1:=a6 6 d1 _ _ rfl;simp only[go_sem,yQ5,had,f1,fits];exact yJi hz hJ (by decide) (by decide) λ_ _ _=>rfl
  ·have d1:=hdep ⟨7,.data⟩ (by simp) rfl;have f1:=a6 7 d1 _ _ rfl;simp only[go_sem,zE,zA,yQ5,f1];refine (wVe gl l t xs ht6 hap hxs (by omega) _).mono ?_;rintro _ st2 ⟨t4,rfl,hown,hap4,hsub⟩;have st':∀j,8≠j->(listed.setIfInBounds 8 true).getD j false=listed.getD j false:=λj hj=>by rw[yQo (by omega),if_neg hj]
   have sti:(listed.setIfInBounds 8 true).getD 8 false=true:=by rw[yQo (by omega),if_pos rfl]
   have h14:listed.getD 14 false≠true:=λhc=>by rw[(a5 hc).2] at hfl;cases hfl
   have h16:listed.getD 16 false≠true:=λhc=>h14 (a4 hc).1;rcases a1 with⟨h8,_⟩|⟨_,rfl⟩
   ·rw[hfl] at h8;cases h8
   rcases a3 with⟨l15,hb1,rfl⟩|⟨l15,rfl⟩
   ·rw[if_neg h16] at hown hsub;refine⟨zQq had _,rfl,hF.put (by decide) _,t4,t3,b,st2.put b none,.inl ⟨sti,wJj hown,hap4,wXs hsub hb1⟩,?_,.inl ⟨?_,ISt.put_same ..,?_⟩,?_,?_,yKw (λ_ _ _ h=>yKa h) hz (by decide) rfl (λj hj hl=>zZq j (.inr ⟨hj,λhc=>h14 (hc▸hl)⟩) (.inl rfl) (.inl rfl)) a6⟩
    ·rw[st' 13 (by decide)];exact a2
    ·rw[st' 15 (by decide)];exact l15
    ·rw[st' 16 (by decide),if_neg h16];exact (wJh (hsub b _ (ISt.put_same ..))).symm
    ·rw[st' 16 (by decide)];exact λhc=>absurd hc h16
    ·rw[st' 14 (by decide)];exact λhc=>absurd hc h14
   ·refine⟨zQq had _,rfl,hF.put (by decide) _,t4,t3,b,st2,.inl ⟨sti,hown,hap4,hsub⟩,?_,.inr ⟨?_,rfl⟩,?_,?_,yKw (λ_ _ _ h=>yKa h) hz (by decide) rfl (λj hj hl=>zZq j (.inr ⟨hj,λhc=>h14 (hc▸hl)⟩) (.inl rfl) (.inl rfl)) a6⟩
    ·rw[st' 13 (by decide)];exact a2
    ·rw[st' 15 (by decide)];exact l15
    ·rw[st' 16 (by decide)];exact λhc=>absurd hc h16
    ·rw[st' 14 (by decide)];exact λhc=>absurd hc h14
  ·simp only[go_sem,yQ5,hF.1];exact yJi hz hJ (by decide) (by decide) λ_ _ _=>rfl
  ·have d1:=hdep ⟨9,.data⟩ (by simp) rfl;have f1:=a6 9 d1 _ _ rfl;simp only[go_sem,yQ5,f1];exact yJi hz hJ (by decide) (by decide) λ_ _ _=>rfl
  ·have d1:=hdep ⟨10,.data⟩ (by simp) rfl;have f1:=a6 10 d1 _ _ rfl;simp only[go_sem,yQ5,had,f1,fits];exact yJi hz hJ (by decide) (by decide) λ_ _ _=>rfl
  ·have d1:=hdep ⟨11,.data⟩ (by simp) rfl;have f1:=a6 11 d1 _ _ rfl;simp only[go_sem,yQ5,had,f1,fits];exact yJi hz hJ (by decide) (by decide) λ_ _ _=>rfl
  ·have d1:=hdep ⟨12,.data⟩ (by simp) rfl;have f1:=a6 12 d1 _ _ rfl;simp only[go_sem,zE,zA,yQ5,f1];refine (wK7 gl t' v htc _).mono ?_;rintro _ st2 ⟨t4,rfl,ht4,ht4c,rfl⟩;have st':∀j,13≠j->(listed.setIfInBounds 13 true).getD j false=listed.getD j false:=λj hj=>by rw[yQo (by omega),if_neg hj]
   have sti:(listed.setIfInBounds 13 true).getD 13 false=true:=by rw[yQo (by omega),if_pos rfl]
   have h14:listed.getD 14 false≠true:=λhc=>by rw[(a5 hc).1] at hfl;cases hfl
   have h16:listed.getD 16 false≠true:=λhc=>h14 (a4 hc).1;refine⟨zQq had _,rfl,hF.put (by decide) _,t2,t4,b,s1,?_,λ_=>⟨ht4,ht4c⟩,?_,?_,?_,yKw (λ_ _ _ h=>yKa h) hz (by decide) rfl (λj hj hl=>zZq j (.inl rfl) (.inr ⟨hj,λhc=>h14 (hc▸hl)⟩) (.inl rfl)) a6⟩
   ·rw[st' 8 (by decide)];exact a1
   ·rw[st' 15 (by decide),st' 16 (by decide)];rw[if_neg h16] at a3 ⊢;exact a3
   ·rw[st' 16 (by decide)];exact λhc=>absurd hc h16
   ·rw[st' 14 (by decide)];exact λhc=>absurd hc h14
  ·have d3:=hdep ⟨3,.data⟩ (by simp) rfl;have d8:=hdep ⟨8,.data⟩ (by simp) rfl;have d13:=hdep ⟨13,.data⟩ (by simp) rfl;have f3:=a6 3 d3 _ _ rfl;have f8:=a6 8 d8 _ _ rfl;have f13:=a6 13 d13 _ _ rfl;simp only[go_sem,zA,zL,yQ5,f3,f8,f13,fits];have st':∀j,14≠j->(listed.setIfInBounds 14 true).getD j false=listed.getD j false:=λj hj=>by rw[yQo (by omega),if_neg hj]
   have sti:(listed.setIfInBounds 14 true).getD 14 false=true:=by rw[yQo (by omega),if_pos rfl]
   refine⟨zQq had _,rfl,hF.put (by decide) _,t2,t3,b,s1,?_,?_,?_,?_,?_,yKw (λ_ _ _ h=>yKa h) hz (by decide) rfl (λj hj hl=>rfl) a6⟩
   ·rw[st' 8 (by decide)];exact a1
   ·rw[st' 13 (by decide)];exact a2
   ·rw[st' 15 (by decide),st' 16 (by decide)];exact a3
   ·rw[st' 15 (by decide),st' 16 (by decide)];exact λhc=>⟨sti,(a4 hc).2⟩
   ·rw[st' 13 (by decide),st' 8 (by decide)];exact λ_=>⟨d13,d8⟩
  ·have h16:listed.getD 16 false≠true:=λhc=>by rw[(a4 hc).2] at hfl;cases hfl
   rcases a3 with⟨h15,_⟩|⟨_,rfl⟩
   ·rw[hfl] at h15;cases h15
   simp only[go_sem,yQ5];refine λb'=>yQf λhb'=>?_;have st':∀j,15≠j->(listed.setIfInBounds 15 true).getD j false=listed.getD j false:=λj hj=>by rw[yQo (by omega),if_neg hj]
   have sti:(listed.setIfInBounds 15 true).getD 15 false=true:=by rw[yQo (by omega),if_pos rfl]
   refine⟨zQq had _,rfl,hF.put (by decide) _,t2,t3,b',st1,?_,?_,.inl ⟨sti,hb',?_⟩,?_,?_,yKw (λ_ _ _ h=>yKa h) hz (by decide) rfl (λj hj hl=>zZq j (.inl rfl) (.inl rfl) (.inr hj)) a6⟩
   ·rw[st' 8 (by decide)];exact a1
   ·rw[st' 13 (by decide)];exact a2
   ·rw[st' 16 (by decide),if_neg h16];rfl
   ·rw[st' 16 (by decide)];exact λhc=>absurd hc h16
   ·rw[st' 14 (by decide),st' 13 (by decide),st' 8 (by decide)];exact a5
  ·have d14:=hdep ⟨14,.data⟩ (by simp) rfl;have d15:=hdep ⟨15,.data⟩ (by simp) rfl;have f14:=a6 14 d14 _ _ rfl;have f15:=a6 15 d15 _ _ rfl;unfold brI at f14;rcases a3 with⟨_,hb1,rfl⟩|⟨h15,_⟩
   case inr=>rw[d15] at h15;cases h15
   rw[if_neg (by rw[hfl];decide)];unfold boxZ;simp only[go_sem,zA,zL,yQ5,had,f14,f15,ISt.put_same,yQh];have st':∀j,16≠j->(listed.setIfInBounds 16 true).getD j false=listed.getD j false:=λj hj=>by rw[yQo (by omega),if_neg hj]
   have sti:(listed.setIfInBounds 16 true).getD 16 false=true:=by rw[yQo (by omega),if_pos rfl]
   refine⟨had,rfl,hF,t2,t3,b,s1,?_,?_,.inl ⟨?_,hb1,?_⟩,?_,?_,λj hl d z hs=>?_⟩
   ·rw[st' 8 (by decide)];exact a1
   ·rw[st' 13 (by decide)];exact a2
   ·rw[st' 15 (by decide)];exact d15
   ·rw[if_pos sti];rfl
   ·rw[st' 14 (by decide),st' 15 (by decide)];exact λ_=>⟨d14,d15⟩
   ·rw[st' 14 (by decide),st' 13 (by decide),st' 8 (by decide)];exact a5
   ·have hj:=(yKa hs).1;rw[st' j (by omega)] at hl;exact a6 j hl d z hs
 ·intro listed ad fr st1 ds hz hr hJ;have hl:=zXy (by decide +kernel) hz hr;obtain⟨_,rfl,⟨f0,f2,f4,f6⟩,t2,t3,b,s1,a1,a2,a3,a4,a5,a6⟩:=hJ;have f7:=a6 15 (hl 15 (by decide)) _ _ rfl;obtain⟨_,hown,hap2,hsub⟩|⟨h8,_⟩:=a1
  case inr=>rw[hl 8 (by decide)] at h8;cases h8
  obtain⟨_,hbn,rfl⟩|⟨h15,_⟩:=a3
  case inr=>rw[hl 15 (by decide)] at h15;cases h15
  rw[if_pos (hl 16 (by decide))];obtain⟨ht3,ht3c⟩:=a2 (hl 13 (by decide));have hbS:=yXx hsub hbn;have htb:tb≠b:=λhc=>by rw[hc] at hb;rw[hb] at hbS;cases hbS
  have hbt:(s1.put b (some (.box (brI tb t2 xs t3 v)))) tb=some (.map .sg es):=by rw[yQ9 htb];exact hsub _ _ hb
  have hBr:BrSt st b tb l t3 v (s1.put b (some (.box (brI tb t2 xs t3 v)))):=⟨t2,xs,ISt.put_same ..,hxs,hown.mono λg hg hg0=>by rw[yQ9 (λhc=>by rw[hc,hbn] at hg;cases hg)];exact hg,hap2,yQq hsub hbS,hbS⟩
  generalize s1.put b (some (.box (brI tb t2 xs t3 v)))=s2 at hbt hBr ⊢;unfold brI at f0;simp only[go_sem,zE,zB,zA,zL,f0,f4,fits];refine (hfind _ hbt).mono ?_;rintro _ _ ⟨rfl,rfl⟩;simp only[go_sem,zE,f2,rowF,hk4,hzs.len];intro _;refine LoopC.ctr q.length (λk fr st' ds=>BrSt st b tb (yQu l (q.take k)) t3 v st'/\fr 6=.box boxZ/\fr 7=.iv (.raw (.pointer (some ⟨b,0,none⟩)))/\fr 41=.iv (.sl tg zs)/\fr 42=.iv (.raw (.int .i64 q.length))/\fr 43=.iv (.raw (.int .i64 k))/\ds=[]) ?_ ?_ ?_
  ·simp only[go_sem,zE,f6,f7];exact⟨hBr,rfl⟩
  ·rintro k fr st3 _ hlt ⟨hB,f6,f7,f41,f42,f43,rfl⟩;obtain⟨a,ha⟩:=yQ3 hlt;obtain⟨y,hky,hy⟩:=hzs.get ha;have hlen:=yZc (q.take k) l;rw[List.length_take] at hlen;have hadd:=wZe gl st b tb _ t3 v st3 hB (by omega) a y hy;obtain⟨_,_,_,_,_,_,rfl⟩:=hy.agg;simp only[go_sem,zE,zB,zA,zL,f7,f41,f42,f43,lt_i hlt,yQ2 htg,iNn,hky,fits];refine hadd.mono ?_;rintro _ st4 hB';simp only[go_sem,zE,f6,f7,f41,f42,f43,yQa hlt (show q.length<=281474976710656 by omega)];rw[yQ8 ha,zQp];exact hB'
  ·rintro fr st3 _ ⟨hB,f6,f7,f41,f42,f43,rfl⟩;rw[lTl] at hB;obtain⟨hsub3,t4,x4,hb4,hbr⟩:=hB.br ht3 ht3c;unfold brI at hb4;unfold boxZ at f6;simp only[go_sem,zE,zA,zL,f6,f7,f42,f43,yQk (nLi _),hb4];exact yQb hsub3 ⟨hbr,rfl⟩
 ·refine⟨λ_=>rfl,rfl,⟨rfl,rfl,rfl,rfl⟩,t,t',0,st,.inr ⟨yXw _ _,rfl⟩,λhc=>?_,.inr ⟨yXw _ _,rfl⟩,λhc=>?_,λhc=>?_,λi hc=>?_⟩
  all_goals (rw[show _=false from yXw _ _] at hc;cases hc)
theorem yYx (l q q':List Mk):yQu l (q++q')=yQu (yQu l q) q':=by unfold yQu;rw[List.foldl_append]
theorem wZd (s:Sq)(x:IV)(hx:IsSq s x)(hl:s.l.length+s.r.length<=1000000)(st:ISt) :
  ICall prog gl 46 [.raw (.int .u8 1),x] st (λr st'=>∃tb es,st tb=none/\zZn es/\IsBr (yQp s) tb r/\st'=st.put tb (some (.map .sg es))):=by
 obtain⟨t1,x1,t2,x2,rfl,e1,i1,e2,i2⟩:=hx;refine ICall.intro (c:=cf prog gl [5] []) func46 rfl (by show _<=38;simp) (by kernel_rfl) ?_;simp only[go_sem,zE,zA,reduceCtorEq];refine (xYs gl _).mono ?_;rintro _ _ ⟨tb,es,htb,rfl,hok,rfl⟩;obtain⟨S0,hS0⟩:∃S0,S0=st.put tb (some (.map .sg es)):=⟨_,rfl⟩
 rw[<- hS0];simp only[go_sem,zE,zA,zM,zL,fits,yQ1];refine λb=>yQf λhbn=>?_;have hBr:BrSt S0 b tb [] ⟨true,.full,1⟩ (-1) (S0.put b (some (.box (brI tb ⟨true,.nil,0⟩ [] ⟨true,.full,1⟩ (-1))))):=⟨_,[],ISt.put_same ..,rfl,.inl ⟨rfl,rfl⟩,.inl ⟨rfl,rfl⟩,yQz hbn,hbn⟩
 simp only[go_sem,yQh,i1.len];intro _;refine LoopC.ctr s.l.length (λk fr st' ds=>BrSt S0 b tb (yQu [] ((s.l.take k).map (⟨true,0,·⟩))) ⟨true,.full,1⟩ (-1) st'/\fr 3=.box [.sl t1 x1,.sl t2 x2]/\fr 4=.box boxZ/\fr 5=.iv (.raw (.pointer (some ⟨b,0,none⟩)))/\fr 16=.iv (.sl t1 x1)/\fr 17=.iv (.raw (.int .i64 s.l.length))/\fr 18=.iv (.raw (.int .i64 k))/\ds=[]) ?_ ?_ ?_
 ·simp only[go_sem,zE];exact⟨hBr,rfl,rfl⟩
 ·rintro k fr st3 _ hlt ⟨hB,f3,f4,f5,f16,f17,f18,rfl⟩;obtain⟨a,ha⟩:=yQ3 hlt;obtain⟨y,hky,hy⟩:=i1.get ha;have hy0:=hy;obtain⟨o5,n5,t5,x5,t6,x6,rfl⟩:=hy.agg;have hadd:=wZe gl S0 b tb _ _ _ st3 hB (by have h9:=yZc ((s.l.take k).map (⟨true,0,·⟩)) [];have h8:=yZc (s.l.map (⟨true,0,·⟩)) [];simp only[List.length_map,List.length_take,List.length_nil] at h8 h9 ⊢;omega) ⟨true,0,a⟩ _ ⟨_,_,_,_,_,_,rfl,hy0⟩;simp only[go_sem,zE,zB,zA,zL,f5,f16,f17,f18,lt_i hlt,yQ2 e1,iNn,hky,fits];refine hadd.mono ?_;rintro _ st4 hB';simp only[go_sem,zE,f3,f4,f5,f16,f17,f18,yQa hlt (show s.l.length<=281474976710656 by omega)];rw[yQ8 ha,List.map_append,yYx];exact hB'
 ·rintro fr st2 _ ⟨hB,f3,f4,f5,f16,f17,f18,rfl⟩;rw[lTl] at hB;simp only[go_sem,zE,f3,f17,f18,yQk (nLi _),i2.len];intro _;refine LoopC.ctr s.r.length (λk fr st' ds=>BrSt S0 b tb (yQu (yQu [] (s.l.map (⟨true,0,·⟩))) ((s.r.take k).map (⟨false,0,·⟩))) ⟨true,.full,1⟩ (-1) st'/\fr 4=.box boxZ/\fr 5=.iv (.raw (.pointer (some ⟨b,0,none⟩)))/\fr 27=.iv (.sl t2 x2)/\fr 28=.iv (.raw (.int .i64 s.r.length))/\fr 29=.iv (.raw (.int .i64 k))/\ds=[]) ?_ ?_ ?_
  ·simp only[go_sem,zE,f4,f5];exact⟨hB,rfl⟩
  ·rintro k fr st3 _ hlt ⟨hB,f4,f5,f27,f28,f29,rfl⟩;obtain⟨a,ha⟩:=yQ3 hlt;obtain⟨y,hky,hy⟩:=i2.get ha;have hy0:=hy;obtain⟨o5,n5,t5,x5,t6,x6,rfl⟩:=hy.agg;have hadd:=wZe gl S0 b tb _ _ _ st3 hB (by have h9:=yZc ((s.r.take k).map (⟨false,0,·⟩)) (yQu [] (s.l.map (⟨true,0,·⟩)));have h8:=yZc (s.l.map (⟨true,0,·⟩)) [];simp only[List.length_map,List.length_take,List.length_nil] at h8 h9 ⊢;omega) ⟨false,0,a⟩ _ ⟨_,_,_,_,_,_,rfl,hy0⟩;simp only[go_sem,zE,zB,zA,zL,f5,f27,f28,f29,lt_i hlt,yQ2 e2,iNn,hky,fits];refine hadd.mono ?_;rintro _ st4 hB';simp only[go_sem,zE,f4,f5,f27,f28,f29,yQa hlt (show s.r.length<=281474976710656 by omega)];rw[yQ8 ha,List.map_append,yYx];exact hB'
  ·rintro fr st3 _ ⟨hB,f4,f5,f27,f28,f29,rfl⟩;rw[lTl,<- yYx] at hB;obtain⟨hsub3,t4,x4,hb4,hbr⟩:=hB.br (.inr rfl) (by simp);unfold brI at hb4;unfold boxZ at f4;simp only[go_sem,zE,zA,zL,f4,f5,f28,f29,yQk (nLi _),hb4];exact yQb hsub3 ⟨tb,es,htb,hok,hbr,hS0⟩
theorem wJe (a b:Fm)(x y:IV)(hx:IsFm a x)(hy:IsFm b y)(st:ISt):ICall prog gl 226 [x,y] st (λr st'=>r=.raw (.bool (decide (yVc a b=0)))/\st'=st):=by
 have h:=λst=>xWd gl a b x y hx hy st;obtain⟨_,_,_,_,_,_,rfl⟩:=hx.agg;obtain⟨_,_,_,_,_,_,rfl⟩:=hy.agg;refine iI func226 ?_;simp only[go_sem,zE,zA,zL];refine (h _).mono ?_;rintro _ _ ⟨rfl,rfl⟩;simp only[go_sem];exact yQ0 ⟨rfl,rfl⟩
theorem wJd (a m:Mk)(y x:IV)(hy:IsMk a y)(hx:IsMk m x)(st:ISt):ICall prog gl 174 [y,x] st (λr st'=>r=.raw (.bool (mkB a m))/\st'=st):=by
 obtain⟨i,w,f⟩:=a;obtain⟨i',w',f'⟩:=m;obtain⟨o5,n5,t5,x5,t6,x6,rfl,h1⟩:=hy;obtain⟨o7,n7,t7,x7,t8,x8,rfl,h2⟩:=hx;have hs:=λst=>wJe gl f f' _ _ h1 h2 st;refine iI func174 ?_;by_cases hi:i=i'
 case neg =>
  have hb:(i == i')=false:=by simp[hi]
  simp only[go_sem,zE,zA,hb];exact yQ0 ⟨by simp[mkB,hi],rfl⟩
 have hb:(i == i')=true:=by simp[hi]
 by_cases hw:w=w'
 case neg =>
  simp only[go_sem,zE,zA,hb,dEf hw];exact yQ0 ⟨by simp[mkB,hw],rfl⟩
 simp only[go_sem,zE,zA,zL,hb,dEt hw];refine (hs _).mono ?_;rintro _ _ ⟨rfl,rfl⟩;simp only[go_sem,zE];exact yQ0 ⟨by simp[mkB,hi,hw],rfl⟩
def RBr (l:List Mk)(x:IV):Prop:=∃(t:Tag) (xs:List IV) (t':Tag) (vs:List IV),x=.agg [.raw (.int .u8 1),.sl t xs,.sl t' vs]/\okEs t 6/\IsMks l xs
theorem zWo (l:List Mk)(x:IV)(hx:RBr l x)(m:Mk)(y:IV)(hy:IsMk m y)(st:ISt):ICall prog gl 102 [x,y] st (λr st'=>r=.raw (.bool (hasT l m))/\st'=st):=by
 obtain⟨t,xs,t',vs,rfl,ht,hxs⟩:=hx;have hy0:=hy;obtain⟨o7,n7,t7,x7,t8,x8,rfl,_⟩:=hy;have hlen:=hxs.len;refine iI func102 ?_;simp only[go_sem,zE];refine LoopC.ctr l.length (λk fr st' ds=>hasT (l.take k) m=false/\fr 2=.box [.raw (.int .u8 1),.sl t xs,.sl t' vs]/\fr 3=.box [.raw (.bool m.is),.raw (.int .i64 m.w),.raw (.int .u8 o7),.raw (.string n7),.sl t7 x7,.sl t8 x8]/\fr 5=.iv (.raw (.int .i64 k))/\st'=st/\ds=[]) ?_ ?_ ?_
 ·simp only[go_sem,zE];exact⟨rfl,rfl⟩
 ·rintro k fr st1 _ hlt ⟨hn,f2,f3,f5,rfl,rfl⟩;obtain⟨a,ha⟩:=yQ3 hlt;obtain⟨z,hkz,hz⟩:=hxs.get ha;have hs:=λst=>wJd gl a m _ _ hz hy0 st;obtain⟨o5,n5,t5,x5,t6,x6,rfl,_⟩:=hz;simp only[go_sem,zE,zB,zA,zL,f2,f3,f5,hxs.len,lt_i hlt,yQ2 ht,iNn,hkz,fits];intro _;refine (hs _).mono ?_;rintro _ _ ⟨rfl,rfl⟩;cases hc:mkB a m
  ·simp only[go_sem,zE,f2,f3,f5,yQa hlt (show l.length<=281474976710656 by omega)];unfold hasT at hn ⊢;rw[yQ8 ha,List.any_append,hn];simp[hc]
  ·simp only[go_sem];exact yQ0 ⟨by rw[show hasT l m=true from List.any_eq_true.2 ⟨_,lMg ha,hc⟩],rfl⟩
 ·rintro fr st1 _ ⟨hn,f2,f3,f5,rfl,rfl⟩;rw[lTl] at hn;simp only[go_sem,zE,f2,f5,hxs.len,yQk (nLi _)];intro _;exact yQ0 ⟨by rw[hn],rfl⟩
theorem zXz (l:List Mk)(x:IV)(hx:RBr l x)(q:List Mk)(tq:Tag)(zs:List IV)(htq:okEs tq 6)(hzs:IsMks q zs)(hl:l.length+q.length<=1000000)(st:ISt) :
  ICall prog gl 104 [x,.sl tq zs] st (λr st'=>RBr (yQu l q) r/\st'=st):=by
 obtain⟨t,xs,t3,v3,rfl,ht,hxs⟩:=hx;refine iI func104 ?_;simp only[go_sem,zE,zA,zM,zL,show yZk 0 []=true from rfl];refine yGc (m:=l.length) (own.full st st 0 6) rfl hxs.len (subSt.refl _) rfl (zZx hxs) (by simp only;omega) (by omega) λtg2 st4 hown2 hsub4 _ _=>?_;rw[Nat.zero_add] at hown2;simp only[go_sem,zE,zA,zL];refine LoopC.ctr q.length (λk fr st' ds=>(∃t' ys,fr 2=.box [.raw (.int .u8 1),.sl t' ys,.sl t3 v3]/\IsMks (yQu l (q.take k)) ys/\own st' t' (yQu l (q.take k)).length 6 st/\subSt st st')/\fr 1=.iv (.sl tq zs)/\fr 4=.box [.raw (.int .u8 0),.sl ⟨true,.nil,0⟩ [],.sl ⟨true,.nil,0⟩ []]/\fr 5=.iv (.raw (.int .i64 k))/\ds=[]) ?_ ?_ ?_
 ·simp only[go_sem,zE];exact⟨⟨_,_,rfl,hxs,hown2,hsub4⟩,rfl⟩
 ·rintro k fr st1 _ hlt ⟨⟨t',ys,f2,hys,hown,hsub⟩,f1,f4,f5,rfl⟩;obtain⟨a,ha⟩:=yQ3 hlt;obtain⟨y,hky,hy⟩:=hzs.get ha;have hlen:=yZc (q.take k) l;rw[List.length_take] at hlen;have hh:=λst=>zWo gl _ _ ⟨t',ys,t3,v3,rfl,hown.es,hys⟩ a y hy st;have hy0:=hy;obtain⟨o5,n5,t5,x5,t6,x6,rfl,h1⟩:=hy;rw[yQ8 ha,zQp];simp only[go_sem,zE,zB,zA,zL,f1,f2,f5,hzs.len,lt_i hlt,yQ2 htq,iNn,hky,fits];intro _;refine (hh _).mono ?_;rintro _ _ ⟨rfl,rfl⟩;unfold addT;cases hq:hasT (yQu l (q.take k)) a
  ·simp only[go_sem,zE,zB,zA,zM,zL,reduceCtorEq,f1,f2,f5,yQ2 htq,iNn,hky,fits,yQ1];refine yZb hown hys.len hsub rfl (by simp[fits,IV.one]) (by simp only;omega) (by omega) λtg3 st5 hown3 hsub5 _ _=>?_;simp only[go_sem,zE,zA,zL,f1,f2,f4,f5,yQa hlt (show q.length<=281474976710656 by omega)];exact⟨tg3,_,rfl,hys.append (IsMks.one hy0),by rw[lLa];exact hown3,hsub5⟩
  ·simp only[go_sem,zE,f1,f2,f4,f5,yQa hlt (show q.length<=281474976710656 by omega)];exact⟨t',ys,rfl,hys,hown,hsub⟩
 ·rintro fr st1 _ ⟨⟨t',ys,f2,hys,hown,hsub⟩,f1,f4,f5,rfl⟩;rw[lTl] at hys;simp only[go_sem,zE,zA,zL,f1,f2,f4,f5,hzs.len,yQk (nLi _)];intro _;exact yQb hsub ⟨⟨t',ys,t3,v3,rfl,hown.es,hys⟩,rfl⟩
theorem xJz (s:Sq)(x:IV)(hx:IsSq s x)(hl:s.l.length+s.r.length<=900000)(st:ISt):ICall prog gl 51 [.raw (.int .u8 1),x] st (λr st'=>RBr (yQp s) r/\st'=st):=by
 obtain⟨t1,x1,t2,x2,rfl,e1,i1,e2,i2⟩:=hx;refine iI func51 ?_;simp only[go_sem,zE,zA,zM,zL,reduceCtorEq,fits,yQ1];refine LoopC.ctr s.l.length (λk fr st' ds=>(∃t' ys t3 v3,fr 5=.box [.raw (.int .u8 1),.sl t' ys,.sl t3 v3]/\okEs t' 6/\IsMks (yQu [] ((s.l.take k).map (⟨true,0,·⟩))) ys)/\fr 3=.box [.sl t1 x1,.sl t2 x2]/\fr 4=.box [.raw (.int .u8 0),.sl ⟨true,.nil,0⟩ [],.sl ⟨true,.nil,0⟩ []]/\fr 6=.iv (.raw (.int .i64 k))/\st'=st/\ds=[]) ?_ ?_ ?_
 ·simp only[go_sem,zE];exact⟨⟨_,_,_,_,rfl,.inl rfl,rfl⟩,rfl⟩
 ·rintro k fr st1 _ hlt ⟨⟨t',ys,t3,v3,f5,ht',hys⟩,f3,f4,f6,rfl,rfl⟩;obtain⟨a,ha⟩:=yQ3 hlt;obtain⟨y,hky,hy⟩:=i1.get ha;have hlen:=yZc ((s.l.take k).map (⟨true,0,·⟩)) [];have hsz:(((s.l.take k).map (⟨true,0,·⟩)):List Mk).length=k:=by simp;omega
  obtain⟨o5,n5,t5,x5,t6,x6,rfl⟩:=hy.agg;have hW:=λst=>zXz gl _ _ ⟨t',ys,t3,v3,rfl,ht',hys⟩ [⟨true,0,a⟩] ⟨true,.full,6⟩ _ (.inr rfl) (mks1 (mkOf hy)) (by simp only[List.length_cons,List.length_nil] at hlen ⊢;omega) st;simp only[go_sem,zE,zB,zA,zM,zL,f3,f5,f6,i1.len,lt_i hlt,yQ2 e1,iNn,hky,fits,yQ1];intro _;refine (hW _).mono ?_;rintro _ _ ⟨⟨t4,z4,t5',v5,rfl,e4,i4⟩,rfl⟩;simp only[go_sem,zE,zA,zL,f3,f4,f5,f6,yQa hlt (show s.l.length<=281474976710656 by omega)];exact⟨t4,z4,t5',v5,rfl,e4,by rw[yQ8 ha,List.map_append,List.map_singleton,yYx];exact i4⟩
 ·rintro fr st1 _ ⟨⟨t',ys,t3,v3,f5,ht',hys⟩,f3,f4,f6,rfl,rfl⟩;rw[lTl] at hys;simp only[go_sem,zE,f3,f6,i1.len,yQk (nLi _)];intro _;refine LoopC.ctr s.r.length (λk fr st' ds=>(∃t' ys t3 v3,fr 5=.box [.raw (.int .u8 1),.sl t' ys,.sl t3 v3]/\okEs t' 6/\IsMks (yQu [] (s.l.map (⟨true,0,·⟩:Fm->Mk)++(s.r.take k).map (⟨false,0,·⟩:Fm->Mk))) ys)/\fr 3=.box [.sl t1 x1,.sl t2 x2]/\fr 4=.box [.raw (.int .u8 0),.sl ⟨true,.nil,0⟩ [],.sl ⟨true,.nil,0⟩ []]/\fr 7=.iv (.raw (.int .i64 k))/\st'=st1/\ds=[]) ?_ ?_ ?_
  ·simp only[go_sem,zE,f3,f4,f5];exact⟨⟨_,_,_,_,rfl,ht',by simpa using hys⟩,rfl⟩
  ·rintro k fr st1 _ hlt ⟨⟨t',ys,t3,v3,f5,ht',hys⟩,f3,f4,f7,rfl,rfl⟩;obtain⟨a,ha⟩:=yQ3 hlt;obtain⟨y,hky,hy⟩:=i2.get ha;have hlen:=yZc (s.l.map (⟨true,0,·⟩:Fm->Mk)++(s.r.take k).map (⟨false,0,·⟩:Fm->Mk)) [];have hsz:((s.l.map (⟨true,0,·⟩:Fm->Mk)++(s.r.take k).map (⟨false,0,·⟩:Fm->Mk)):List Mk).length=s.l.length+k:=by simp;omega
   obtain⟨o5,n5,t5,x5,t6,x6,rfl⟩:=hy.agg;have hW:=λst=>zXz gl _ _ ⟨t',ys,t3,v3,rfl,ht',hys⟩ [⟨false,0,a⟩] ⟨true,.full,6⟩ _ (.inr rfl) (mks1 (mkOf hy)) (by simp only[List.length_cons,List.length_nil] at hlen ⊢;omega) st;simp only[go_sem,zE,zB,zA,zM,zL,f3,f5,f7,i2.len,lt_i hlt,yQ2 e2,iNn,hky,fits,yQ1];intro _;refine (hW _).mono ?_;rintro _ _ ⟨⟨t4,z4,t5',v5,rfl,e4,i4⟩,rfl⟩;simp only[go_sem,zE,zA,zL,f3,f4,f5,f7,yQa hlt (show s.r.length<=281474976710656 by omega)];exact⟨t4,z4,t5',v5,rfl,e4,by rw[yQ8 ha,List.map_append,List.map_singleton,<- List.append_assoc,yYx];exact i4⟩
  ·rintro fr st1 _ ⟨⟨t',ys,t3,v3,f5,ht',hys⟩,f3,f4,f7,rfl,rfl⟩;rw[lTl] at hys;simp only[go_sem,zE,zA,zL,f3,f4,f5,f7,i2.len,yQk (nLi _)];intro _;exact yQ0 ⟨⟨t',ys,t3,v3,rfl,ht',hys⟩,rfl⟩
theorem xGz (l:List Mk)(x:IV)(hx:RBr l x)(m:Mk)(y:IV)(hy:IsMk m y)(st:ISt):ICall prog gl 224 [x,y] st (λr st'=>r=.raw (.bool (yKn l m))/\st'=st):=by
 obtain⟨is,w,f⟩:=m;obtain⟨o7,n7,t7,x7,t8,x8,rfl,hf⟩:=hy;have hh:=λst=>zWo gl l x hx ⟨!is,w,f⟩ _ ⟨_,_,_,_,_,_,rfl,hf⟩ st;obtain⟨o,n,us,sub⟩:=f;obtain⟨_,_,_,_,he,ho,_⟩:=hf.mk;simp only[IV.agg.injEq,List.cons.injEq,IV.raw.injEq,Value.int.injEq,true_and,and_true] at he;obtain⟨rfl,_⟩:=he;obtain⟨t,xs,t',vs,rfl,ht,hxs⟩:=hx;have d2:decide ((o:Int)=2)=decide (o=2):=by rw[decide_eq_decide];omega
 have hc:yKn l ⟨is,w,.mk o n us sub⟩=((is&&decide (o=2)) || hasT l ⟨!is,w,.mk o n us sub⟩):=rfl;rw[hc];refine iI func224 ?_;simp only[go_sem,zE,zA,zL,fits];refine (hh _).mono ?_;rintro _ _ ⟨rfl,rfl⟩;cases hq:hasT l ⟨!is,w,.mk o n us sub⟩
 ·cases is
  ·simp only[go_sem,zE,zA];exact yQ0 ⟨rfl,rfl⟩
  ·simp only[go_sem,zE,zA,d2];exact yQ0 ⟨by simp,rfl⟩
 ·simp only[go_sem,zE];exact yQ0 ⟨by simp,rfl⟩
