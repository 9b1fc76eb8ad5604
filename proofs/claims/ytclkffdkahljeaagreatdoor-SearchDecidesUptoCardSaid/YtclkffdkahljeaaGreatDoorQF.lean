/- The reaches of awake's sequents. Plain d -/
import Derived.Test.YtclkffdkahljeaaGreatDoorQE
import Derived.Test.YtclkffdkahljeaaGreatDoorKC
set_option linter.all false
open Nat renaming reduceEqDiff → zE,reduceBEq → zB,reduceAdd → zA,reduceMul → zM,reduceSub → zS,reduceLeDiff → zL
namespace Go.Proofs.Tryz
open Go Go.Iv
set_option maxRecDepth 100000
abbrev faP:Fm:=.mk 1 ⟨#[80]⟩ [] []
abbrev faQ:Fm:=.mk 1 ⟨#[81]⟩ [] []
abbrev fno (a:Fm):Fm:=.mk 3 noN [] [a]
abbrev fbi (o:Nat)(a b:Fm):Fm:=.mk o noN [] [a,b]
noncomputable def vQ5 (K:List Sn):Decidable K.Nodup:=@List.nodupDecidable Sn (@instDecidableEqProd _ _ (@instDecidableEqList _ vQv) (@instDecidableEqList _ vQv)) K
theorem zQ3 {j:Bool}{K:List Sn}{cl:List Bool}{lk:List (List (List Nat))}{hs:List Nat}(h1:K.map nfC=K)(h2:@decide K.Nodup (vQ5 K)=true)(h3:K.map clC=cl)
  (h4:K.map (λs=>if clC s=true then [] else mvC j s)=lk.map (·.map (·.map λn=>(K[n]?).getD ([],[])))) (h5:vXi K.length cl lk hs=true) (h6:(K.all λs=>decide (s.1.length<=60)&&decide (s.2.length<=60))=true) (h7:K.length<=20000):Cert j K cl lk hs :=
 ⟨h1,@of_decide_eq_true K.Nodup (vQ5 K) h2,h3,h4,h5,h6,h7⟩
def c1K:List Sn:=[([faP,(fbi 6 faP faQ)],[faQ]),([faP,(fbi 6 faP faQ)],[faP]),([faP,faQ,(fbi 6 faP faQ)],[faQ])]
theorem c1:Cert true c1K [false,true,true] [[[1,2]],[],[]] [2,1,1]:=zQ3 (by kernel_rfl) (by kernel_rfl) (by kernel_rfl) (by kernel_rfl) (by kernel_rfl) (by kernel_rfl) (by decide)
def c2K:List Sn:=[([],[(fbi 5 faP (fno faP))]),([],[faP,(fno faP),(fbi 5 faP (fno faP))]),([faP],[faP,(fno faP),(fbi 5 faP (fno faP))])]
theorem c2:Cert false c2K [false,false,true] [[[1]],[[2],[1]],[]] [3,2,1]:=zQ3 (by kernel_rfl) (by kernel_rfl) (by kernel_rfl) (by kernel_rfl) (by kernel_rfl) (by kernel_rfl) (by decide)
def c3K:List Sn:=[([],[(fbi 5 faP (fno faP))]),([],[faP]),([],[(fno faP)]),([faP],[(fno faP)])]
theorem c3:Cert true c3K [false,false,false,false] [[[1],[2]],[],[[3]],[[3]]] [0,0,0,0]:=zQ3 (by kernel_rfl) (by kernel_rfl) (by kernel_rfl) (by kernel_rfl) (by kernel_rfl) (by kernel_rfl) (by decide)
def c4K:List Sn:=[([],[(fno (fno (fbi 5 faP (fno faP))))]),([(fno (fbi 5 faP (fno faP)))],[(fno (fno (fbi 5 faP (fno faP))))]),([(fno (fbi 5 faP (fno faP)))],[(fbi 5 faP (fno faP))]),([(fno (fbi 5 faP (fno faP)))],[faP]),([(fno (fbi 5 faP (fno faP)))],[(fno faP)]),([faP,(fno (fbi 5 faP (fno faP)))],[(fno faP)]),([faP,(fno (fbi 5 faP (fno faP)))],[(fbi 5 faP (fno faP))]),([faP,(fno (fbi 5 faP (fno faP)))],[faP])]
theorem c4:Cert true c4K [false,false,false,false,false,false,false,true] [[[1]],[[2],[1]],[[2],[3],[4]],[[2]],[[2],[5]],[[6],[5]],[[6],[7],[5]],[]] [7,6,5,6,4,3,2,1]:=zQ3 (by kernel_rfl) (by kernel_rfl) (by kernel_rfl) (by kernel_rfl) (by kernel_rfl) (by kernel_rfl) (by decide)
def c5K:List Sn:=[([(fbi 6 faP (fbi 6 faP faQ))],[(fbi 6 faP faQ)]),([(fbi 6 faP (fbi 6 faP faQ))],[faP,(fbi 6 faP faQ)]),([(fbi 6 faP faQ),(fbi 6 faP (fbi 6 faP faQ))],[(fbi 6 faP faQ)]),([faP,(fbi 6 faP (fbi 6 faP faQ))],[faQ,(fbi 6 faP faQ)]),([(fbi 6 faP faQ),(fbi 6 faP (fbi 6 faP faQ))],[faP,(fbi 6 faP faQ)]),([faP,(fbi 6 faP (fbi 6 faP faQ))],[faP,faQ,(fbi 6 faP faQ)]),([faP,(fbi 6 faP faQ),(fbi 6 faP (fbi 6 faP faQ))],[faQ,(fbi 6 faP faQ)])]
theorem c5:Cert false c5K [false,false,true,false,true,true,true] [[[1,2],[3]],[[1,4],[5]],[],[[5,6],[3]],[],[],[]] [3,2,1,2,1,1,1]:=zQ3 (by kernel_rfl) (by kernel_rfl) (by kernel_rfl) (by kernel_rfl) (by kernel_rfl) (by kernel_rfl) (by decide)
def c6K:List Sn:=[([(fbi 6 faP (fbi 6 faP faQ))],[(fbi 6 faP faQ)]),([(fbi 6 faP (fbi 6 faP faQ))],[faP]),([(fbi 6 faP faQ),(fbi 6 faP (fbi 6 faP faQ))],[(fbi 6 faP faQ)]),([faP,(fbi 6 faP (fbi 6 faP faQ))],[faQ]),([(fbi 6 faP faQ),(fbi 6 faP (fbi 6 faP faQ))],[faP]),([faP,(fbi 6 faP (fbi 6 faP faQ))],[faP]),([faP,(fbi 6 faP faQ),(fbi 6 faP (fbi 6 faP faQ))],[faQ]),([faQ,(fbi 6 faP faQ),(fbi 6 faP (fbi 6 faP faQ))],[faP]),([faP,(fbi 6 faP faQ),(fbi 6 faP (fbi 6 faP faQ))],[faP]),([faP,faQ,(fbi 6 faP faQ),(fbi 6 faP (fbi 6 faP faQ))],[faQ])]
theorem c6:Cert true c6K [false,false,true,false,false,true,false,false,true,true] [[[1,2],[3]],[[1,4]],[],[[5,6]],[[4,7],[4,4]],[],[[8,9],[8,6]],[[7,7],[7,7]],[],[]] [4,0,1,3,0,1,2,0,1,1]:=zQ3 (by kernel_rfl) (by kernel_rfl) (by kernel_rfl) (by kernel_rfl) (by kernel_rfl) (by kernel_rfl) (by decide)
theorem yYa {j:Bool}{K:List Sn}{cl:List Bool}{lk:List (List (List Nat))}{hs:List Nat}(h:Cert j K cl lk hs){s:Sn}(h0:K[0]?=some (nfC s)):hF j s=at0 hs 0/\ReachOk j (nf s) K:=by
 rw[<- wWf,nf_C];exact⟨h.hF h0,h.reach h0⟩
theorem aw1:hF true ([fbi 6 faP faQ,faP],[faQ])=2/\ReachOk true (nf ([fbi 6 faP faQ,faP],[faQ])) c1K:=yYa c1 (by kernel_rfl)
theorem aw2:hF false ([],[fbi 5 faP (fno faP)])=3/\ReachOk false (nf ([],[fbi 5 faP (fno faP)])) c2K:=yYa c2 (by kernel_rfl)
theorem aw3:hF true ([],[fbi 5 faP (fno faP)])=0/\ReachOk true (nf ([],[fbi 5 faP (fno faP)])) c3K:=yYa c3 (by kernel_rfl)
theorem aw4:hF true ([],[fno (fno (fbi 5 faP (fno faP)))])=7/\ReachOk true (nf ([],[fno (fno (fbi 5 faP (fno faP)))])) c4K:=yYa c4 (by kernel_rfl)
theorem aw5:hF false ([fbi 6 faP (fbi 6 faP faQ)],[fbi 6 faP faQ])=3/\ReachOk false (nf ([fbi 6 faP (fbi 6 faP faQ)],[fbi 6 faP faQ])) c5K:=yYa c5 (by kernel_rfl)
theorem aw6:hF true ([fbi 6 faP (fbi 6 faP faQ)],[fbi 6 faP faQ])=4/\ReachOk true (nf ([fbi 6 faP (fbi 6 faP faQ)],[fbi 6 faP faQ])) c6K:=yYa c6 (by kernel_rfl)
end Go.Proofs.Tryz
namespace Go.Proofs.Tryz
open Go Go.Iv
set_option maxRecDepth 100000
noncomputable def mvD (j:Bool)(s:Sn):List (Nat×Fm×List Sn):=(s.1.flatMap λf=>(addF j f false).map λt=>(t.1,f,t.2.map (pmC j s)))++s.2.flatMap λf=>(addF j f true).map λt=>(t.1,f,t.2.map (pmC j s))
theorem vQ9 (j:Bool)(s:Sn):mvF j s=mvD j s:=by
 have h:wZm j s=pmC j s:=funext λp=>nf_C _;unfold mvF zVp mvD;rw[h]
abbrev imPQ:Fm:=fbi 6 faP faQ
abbrev orP:Fm:=fbi 5 faP (fno faP)
theorem aw1m:mvF true (nf ([imPQ,faP],[faQ]))=[(9,imPQ,[([faP,imPQ],[faP]),([faP,faQ,imPQ],[faQ])])]:=by
 rw[nf_C,vQ9];kernel_rfl
theorem aw1c:¬ ClF ([imPQ,faP]:List Fm) [faQ]:=λh=>by
 have:=(zGo ([imPQ,faP],[faQ])).2 h;exact absurd this (by rw[show clC ([imPQ,faP],[faQ])=false by kernel_rfl];decide)
theorem xZm {l:List Fm}{f:Fm}(h:(decide (l.length<=64)&&l.all (fmB 2)&&fmB 2 f)=true):yQx 2 ⟨l,[f]⟩=true:=by
 simp only[bAt] at h;obtain⟨⟨h1,h2⟩,h3⟩:=h;have hr:f.right=true:=by unfold fmB at h3;exact (bAt _ _▸h3).1
 unfold yQx;have he:eqF f f=true:=by unfold eqF zJ1;rw[hr,dEt rfl];simp[eqB]
 simp only[h1,h2,h3,zWj,List.all_cons,List.all_nil,he,Bool.and_true,Bool.or_true];rfl
theorem awv1:yQx 2 ⟨[imPQ,faP],[faQ]⟩=true:=xZm (by kernel_rfl)
theorem awv2:yQx 1 ⟨[],[orP]⟩=true:=by kernel_rfl
theorem awv3:yQx 2 ⟨[],[orP]⟩=true:=xZm (by kernel_rfl)
theorem awv4:yQx 2 ⟨[],[fno (fno orP)]⟩=true:=xZm (by kernel_rfl)
theorem awv5:yQx 1 ⟨[fbi 6 faP imPQ],[imPQ]⟩=true:=by kernel_rfl
theorem awv6:yQx 2 ⟨[fbi 6 faP imPQ],[imPQ]⟩=true:=xZm (by kernel_rfl)
theorem ReachOk.no' {j:Bool}{s0:Sn}{K:List Sn}(h:ReachOk j s0 K){e:Nat}(hn:zQ6 j s0 e):False:=h.no .refl hn
theorem ReachOk.top {j:Bool}{s0:Sn}{K:List Sn}(h:ReachOk j s0 K)(hc:¬ ClF s0.1 s0.2):¬ zYu j s0:=h.short s0 ((h.mem s0).2 .refl) hc
end Go.Proofs.Tryz
namespace Go.Proofs.Tryz
open Go Go.Iv
set_option maxRecDepth 4000
variable (gl:Nat->Option IV)
theorem h_p (n:ByteArray)(st:ISt):ICall prog gl 14 [.raw (.string n)] st (λr st'=>r=.agg [.raw (.int .u8 1),.raw (.string n),.sl ⟨true,.nil,0⟩ [],.sl ⟨true,.nil,0⟩ []]/\st'=st):=by
 refine iI func14 ?_;simp only[go_sem,zE,zB,zA,zM,zS,zL,reduceCtorEq,fits];exact yQ0 ⟨rfl,rfl⟩
theorem h_no (o:Int)(n:ByteArray)(t:Tag)(x:List IV)(t':Tag)(x':List IV)(st:ISt):ICall prog gl 22 [.agg [.raw (.int .u8 o),.raw (.string n),.sl t x,.sl t' x']] st
  (λr st'=>r=.agg [.raw (.int .u8 3),.raw (.string ⟨#[]⟩),.sl ⟨true,.nil,0⟩ [],.sl ⟨true,.full,4⟩ [.agg [.raw (.int .u8 o),.raw (.string n),.sl t x,.sl t' x']]]/\st'=st):=by
 refine iI func22 ?_;simp only[go_sem,zE,zB,zA,zM,zS,zL,reduceCtorEq,fits,yQ1];exact yQ0 ⟨rfl,rfl⟩
theorem zG6 (op o:Int)(n:ByteArray)(t:Tag)(x:List IV)(t':Tag)(x':List IV)(o2:Int)(n2:ByteArray)(t2:Tag)(x2:List IV)(t2':Tag)(x2':List IV)(st:ISt) :
  ICall prog gl 24 [.raw (.int .u8 op),.agg [.raw (.int .u8 o),.raw (.string n),.sl t x,.sl t' x'],.agg [.raw (.int .u8 o2),.raw (.string n2),.sl t2 x2,.sl t2' x2']] st
  (λr st'=>r=.agg [.raw (.int .u8 op),.raw (.string ⟨#[]⟩),.sl ⟨true,.nil,0⟩ [],.sl ⟨true,.full,4⟩ [.agg [.raw (.int .u8 o),.raw (.string n),.sl t x,.sl t' x'],.agg [.raw (.int .u8 o2),.raw (.string n2),.sl t2 x2,.sl t2' x2']]]/\st'=st):=by
 refine iI func24 ?_;simp only[go_sem,zE,zB,zA,zM,zS,zL,reduceCtorEq,fits,yQf];exact yQ0 ⟨rfl,rfl⟩
theorem h_fs (t:Tag)(xs:List IV)(st:ISt):ICall prog gl 13 [.sl t xs] st (λr st'=>r=.sl t xs/\st'=st):=by
 refine iI func13 ?_;simp only[go_sem,zE,zB,zA,zM,zS,zL,reduceCtorEq,fits];exact yQ0 ⟨rfl,rfl⟩
theorem h_sq (t:Tag)(xs:List IV)(t':Tag)(ys:List IV)(st:ISt):ICall prog gl 23 [.sl t xs,.sl t' ys] st (λr st'=>r=.agg [.sl t xs,.sl t' ys]/\st'=st):=by
 refine iI func23 ?_;simp only[go_sem,zE,zB,zA,zM,zS,zL,reduceCtorEq,fits];exact yQ0 ⟨rfl,rfl⟩
abbrev sI (s:Sq):IV:=.agg [.sl (tagF s.l) (fmsI s.l),.sl (tagF s.r) (fmsI s.r)]
theorem yUf (s:Sq)(h:(zK5 s.l&&zK5 s.r)=true):IsSq s (sI s):=by
 rw[bAt] at h;exact⟨_,_,_,_,rfl,zUe _,zWd _ h.1,zUe _,zWd _ h.2⟩
theorem yUu (G:Gl gl)(T:Gt gl)(ca:Nat)(s:Sq)(hc:ca=1\/ca=2)(hv:yQx ca s=true){n:Nat}{K:List Sn}(hK:hF (calJ ca) (s.l,s.r)=n/\ReachOk (calJ ca) (nf (s.l,s.r)) K)(x:IV)(hx:IsSq s x)(hs:yYj s)(st:ISt) :
  ICall prog gl 18 [.raw (.int .u8 (ca:Int)),x] st (λr st'=>r=.tup [.raw (.int .i64 (n:Int)),.raw (.int .i64 0)]/\st'=st) :=
 (xXp gl G T ca s x hx hs st).mono λr st' ⟨h1,h2⟩=>by
  rcases h2 with⟨e,hb,_⟩|⟨_,_,_,h3⟩
  ·rcases hb with⟨h,_⟩|⟨_,h,_⟩|⟨_,_,h⟩
   ·exact (h hc).elim
   ·rw[hv] at h;cases h
   ·exact (hK.2.no' h).elim
  ·rw[hK.1] at h3;exact⟨h3,h1⟩
theorem xY6 (G:Gl gl)(T:Gt gl)(ca:Nat)(s:Sq)(hc:ca=1\/ca=2)(hv:yQx ca s=true){n:Nat}{K:List Sn}(hK:hF (calJ ca) (s.l,s.r)=n/\ReachOk (calJ ca) (nf (s.l,s.r)) K)(x:IV)(hx:IsSq s x)(hs:yYj s)(st:ISt) :
  ICall prog gl 17 [.raw (.int .u8 (ca:Int)),x] st (λr st'=>r=.tup [.raw (.int .i64 (K.length:Int)),.raw (.int .i64 0)]/\st'=st) :=
 (wZg gl G T ca s x hx hs st).mono λr st' ⟨h1,h2⟩=>by
  rcases h2 with⟨e,hb,_⟩|⟨_,_,K',h3,h4⟩
  ·rcases hb with⟨h,_⟩|⟨_,h,_⟩|⟨_,_,h⟩
   ·exact (h hc).elim
   ·rw[hv] at h;cases h
   ·exact (hK.2.no' h).elim
  ·rw[h3.len_eq hK.2.nodup hK.2.mem] at h4;exact⟨h4,h1⟩
theorem wXu (G:Gl gl)(T:Gt gl)(ca:Nat)(s:Sq)(hc:ca=1\/ca=2)(hv:yQx ca s=true)(hn:¬ ClF s.l s.r)(x:IV)(hx:IsSq s x)(hs:yYj s)(st:ISt) :
  ICall prog gl 15 [.raw (.int .u8 (ca:Int)),x] st (λr st'=>r=.tup [.raw (.bool false),.raw (.int .i64 0)]/\st'=st) :=
 (wXv gl G T ca s x hx hs st).mono λr st' ⟨h1,h2⟩=>by
  rcases h2 with⟨h,_⟩|⟨_,h,_⟩|⟨_,_,b,hb,h3⟩
  ·exact (h hc).elim
  ·rw[hv] at h;cases h
  ·cases b
   ·exact⟨h3,h1⟩
   ·exact (hn (hb.1 rfl)).elim
theorem wW0 (G:Gl gl)(T:Gt gl)(ca:Nat)(s:Sq)(hc:ca=1\/ca=2)(hv:yQx ca s=true)(hn:¬ zYu (calJ ca) (nf (s.l,s.r)))(x:IV)(hx:IsSq s x)(hs:yYj s)(st:ISt) :
  ICall prog gl 16 [.raw (.int .u8 (ca:Int)),x] st (λr st'=>(∃t ys,okEs t 6/\AllR wYh (mvF (calJ ca) (nf (s.l,s.r))) ys/\r=.tup [.sl t ys,.raw (.int .i64 0)])/\st'=st) :=
 (xYs gl G T ca s x hx hs st).mono λr st' ⟨h1,h2⟩=>by
  rcases h2 with⟨h,_⟩|⟨_,h,_⟩|⟨_,_,⟨h,_⟩|⟨_,h3⟩⟩
  ·exact (h hc).elim
  ·rw[hv] at h;cases h
  ·exact (hn h).elim
  ·exact⟨h3,h1⟩
theorem wVq (G:Gl gl)(T:Gt gl)(ca:Nat)(s:Sq)(hc:ca=1\/ca=2)(hv:yQx ca s=true){K:List Sn}(hK:hF (calJ ca) (s.l,s.r)=0/\ReachOk (calJ ca) (nf (s.l,s.r)) K)(x:IV)(hx:IsSq s x)(hs:yYj s)(bound:Int)(st:ISt) :
  ICall prog gl 19 [.raw (.int .u8 (ca:Int)),x,.raw (.int .i64 bound)] st (λr st'=>r=.tup [zT,.raw (.int .i64 6)]/\st'=st) :=
 (wZk gl G T ca s x hx hs bound (λ_ _=>.inl hK.1) st).mono λr st' ⟨h1,h2⟩=>by
  rcases h2 with⟨e,hb,_⟩|⟨_,_,h3⟩
  ·rcases hb with⟨h,_⟩|⟨_,h,_⟩|⟨_,_,h⟩
   ·exact (h hc).elim
   ·rw[hv] at h;cases h
   ·exact (hK.2.no' h).elim
  ·exact⟨h3,h1⟩
theorem xVr (l m:List Sq)(t t':Tag)(xs ys:List IV)(ht:okEs t 2)(ht':okEs t' 2)(hx:IsSqs l xs)(hy:IsSqs m ys)(st:ISt) :
  ICall prog gl 34 [.sl t xs,.sl t' ys] st (λr st'=>r=.raw (.bool (eqB l m))/\st'=st):=by
 refine iI func34 ?_;simp only[go_sem,zE,zB,zA,zM,zS,zL,reduceCtorEq,hx.len,hy.len];intro hl1 hl2;by_cases hlen:l.length=m.length
 case neg =>
  simp only[go_sem,zE,zB,zA,zM,zS,zL,reduceCtorEq,show decide (((l.length:Nat):Int)=m.length)=false from dEf (by omega)];exact yQ0 ⟨by rw[yQj.2 λh=>hlen (by rw[h])],rfl⟩
 simp only[go_sem,zE,zB,zA,zM,zS,zL,reduceCtorEq,show decide (((l.length:Nat):Int)=m.length)=true from dEt (by omega)];refine LoopC.ctr l.length (λk fr st' ds=>l.take k=m.take k/\fr 0=.iv (.sl t xs)/\fr 1=.iv (.sl t' ys)/\fr 5=.iv (.raw (.int .i64 k))/\st'=st/\ds=[]) ?_ ?_ ?_
 ·simp only[go_sem,zE,zB,zA,zM,zS,zL,reduceCtorEq];simp
 ·rintro k fr st1 _ hlt ⟨hn,f0,f1,f5,rfl,rfl⟩;obtain⟨a,ha⟩:=yQ2 hlt;obtain⟨b,hb⟩:=yQ2 (l:=m) (k:=k) (by omega);obtain⟨x,hkx,hxa⟩:=hx.get ha;obtain⟨y,hky,hyb⟩:=hy.get hb;have hcall:=xKz gl a b x y hxa hyb st1;obtain⟨_,_,_,_,rfl⟩:=IsSq.two hxa;obtain⟨_,_,_,_,rfl⟩:=IsSq.two hyb;simp only[go_sem,zE,zB,zA,zM,zS,zL,reduceCtorEq,f0,f1,f5,hx.len,lt_i hlt,yQ3 ht,yQ3 ht',iNn,hkx,hky,fits];intros;refine hcall.mono ?_;rintro _ _ ⟨rfl,rfl⟩;cases hq:eqB a b
  ·simp only[go_sem,zE,zB,zA,zM,zS,zL,reduceCtorEq,fits];refine yQ0 ⟨?_,rfl⟩;rw[yQj.2 λh=>?_];subst h;rw[ha] at hb;cases hb;exact yQj.1 hq rfl
  ·simp only[go_sem,zE,zB,zA,zM,zS,zL,reduceCtorEq,f0,f1,f5,yQd hlt (show l.length<=281474976710656 by omega)];rw[yQ7 ha,yQ7 hb,hn,yZ5.1 hq]
 ·rintro fr st1 _ ⟨hn,f0,f1,f5,rfl,rfl⟩;rw[lTl,show m.take l.length=m by rw[hlen,lTl]] at hn;simp only[go_sem,zE,zB,zA,zM,zS,zL,reduceCtorEq,f0,f5,hx.len,yQm (nLi _)];intros;exact yQ0 ⟨by rw[yZ5.2 hn],rfl⟩
end Go.Proofs.Tryz
namespace Go.Proofs.Tryz
open Go Go.Iv
set_option maxRecDepth 8000
variable (gl:Nat->Option IV)
theorem xWg:∀ {l:List Sn}{xs:List IV},AllR (λp y=>IsSq ⟨p.1,p.2⟩ y) l xs->IsSqs (l.map λp=>⟨p.1,p.2⟩) xs
 | [],xs,h=>by
  have:=h.1;obtain rfl:xs=[]:=List.eq_nil_of_length_eq_zero this;simp[IsSqs]
 | p::l,xs,h=>by
  obtain⟨x,h0,hx⟩:=h.2 0 p rfl;cases xs with
  | nil=>cases h0
  | cons y ys =>
   obtain rfl:y=x:=by simpa using h0
   exact⟨y,ys,rfl,hx,xWg ⟨by have:=h.1;simpa using this,λi a ha=>h.2 (i+1) a ha⟩⟩
theorem yW0 {s:Sq}(h:(s.l.all (λf=>decide (f.size<=1000000))&&s.r.all (λf=>decide (f.size<=1000000)))=true):yYj s:=by
 simp only[bAt,List.all_eq_true,dTe] at h;exact h
theorem yZ8 (x y z:Operand):yJn 3 [(0,x),(1,y),(2,z)]=true:=rfl
theorem wXb (G:Gl gl)(T:Gt gl)(st:ISt):ICall prog gl 10 [] st (λr st'=>r=.raw (.bool true)/\st'=st):=by
 have hM:=λst=>wW0 gl G T 2 ⟨[imPQ,faP],[faQ]⟩ (.inr rfl) awv1 (aw1.2.top λh=>aw1c ((wKl _).1 h)) (sI ⟨[imPQ,faP],[faQ]⟩) (yUf _ (by decide)) (yW0 (by decide)) st;rw[show mvF (calJ 2) (nf ([imPQ,faP],[faQ]))=_ from aw1m] at hM;have hL1:=λst=>yUu gl G T 2 ⟨[imPQ,faP],[faQ]⟩ (.inr rfl) awv1 aw1 (sI ⟨[imPQ,faP],[faQ]⟩) (yUf _ (by decide)) (yW0 (by decide)) st;have hR1:=λst=>xY6 gl G T 2 ⟨[imPQ,faP],[faQ]⟩ (.inr rfl) awv1 aw1 (sI ⟨[imPQ,faP],[faQ]⟩) (yUf _ (by decide)) (yW0 (by decide)) st;have hC1:=λst=>wXu gl G T 2 ⟨[imPQ,faP],[faQ]⟩ (.inr rfl) awv1 aw1c (sI ⟨[imPQ,faP],[faQ]⟩) (yUf _ (by decide)) (yW0 (by decide)) st;have hL2:=λst=>yUu gl G T 1 ⟨[],[orP]⟩ (.inl rfl) awv2 aw2 (sI ⟨[],[orP]⟩) (yUf _ (by decide)) (yW0 (by decide)) st;have hL3:=λst=>yUu gl G T 2 ⟨[],[orP]⟩ (.inr rfl) awv3 aw3 (sI ⟨[],[orP]⟩) (yUf _ (by decide)) (yW0 (by decide)) st;have hR3:=λst=>xY6 gl G T 2 ⟨[],[orP]⟩ (.inr rfl) awv3 aw3 (sI ⟨[],[orP]⟩) (yUf _ (by decide)) (yW0 (by decide)) st;have hP3:=λst=>wVq gl G T 2 ⟨[],[orP]⟩ (.inr rfl) awv3 aw3 (sI ⟨[],[orP]⟩) (yUf _ (by decide)) (yW0 (by decide)) 99 st;have hL4:=λst=>yUu gl G T 2 ⟨[],[fno (fno orP)]⟩ (.inr rfl) awv4 aw4 (sI ⟨[],[fno (fno orP)]⟩) (yUf _ (by decide)) (yW0 (by decide)) st;have hL5:=λst=>yUu gl G T 1 ⟨[fbi 6 faP imPQ],[imPQ]⟩ (.inl rfl) awv5 aw5 (sI ⟨[fbi 6 faP imPQ],[imPQ]⟩) (yUf _ (by decide)) (yW0 (by decide)) st;have hL6:=λst=>yUu gl G T 2 ⟨[fbi 6 faP imPQ],[imPQ]⟩ (.inr rfl) awv6 aw6 (sI ⟨[fbi 6 faP imPQ],[imPQ]⟩) (yUf _ (by decide)) (yW0 (by decide)) st;refine ICall.intro (c:=cf prog gl [] [(2,[0,8,1,2,3,4,5,6,7,9]),(7,[0,1,2,3,4,5,6,7,8,9,10,11,12,13,14,15,16,17,18,19,20,21,22,23,24,25,26,27,28,29,30,31,32,33,34,35,37,46,36,38,39,40,41,42,43,44,45,47,48,49,50,51,52,53,54,55,56]),(15,[1,5,6,9,0,2,3,4,7,8,10])]) func10 rfl (by show _<=216;simp) (by kernel_rfl) ?_;simp only[go_sem,zE,zB,zA,zM,zS,zL,reduceCtorEq,fits,yQk]
 repeat (first
  | (refine (h_p gl _ _).mono ?_;rintro _ st ⟨rfl,rfl⟩;simp only[go_sem,zE,zB,zA,zM,zS,zL,reduceCtorEq,fits,yQ1,yQf,yZ8,yQk,decide_true,fits])
  | (refine (h_no gl _ _ _ _ _ _ _).mono ?_;rintro _ st ⟨rfl,rfl⟩;simp only[go_sem,zE,zB,zA,zM,zS,zL,reduceCtorEq,fits,yQ1,yQf,yZ8,yQk,decide_true,fits])
  | (refine (zG6 gl _ _ _ _ _ _ _ _ _ _ _ _ _ _).mono ?_;rintro _ st ⟨rfl,rfl⟩;simp only[go_sem,zE,zB,zA,zM,zS,zL,reduceCtorEq,fits,yQ1,yQf,yZ8,yQk,decide_true,fits])
  | (refine (h_fs gl _ _ _).mono ?_;rintro _ st ⟨rfl,rfl⟩;simp only[go_sem,zE,zB,zA,zM,zS,zL,reduceCtorEq,fits,yQ1,yQf,yZ8,yQk,decide_true,fits])
  | (refine (h_sq gl _ _ _ _ _).mono ?_;rintro _ st ⟨rfl,rfl⟩;simp only[go_sem,zE,zB,zA,zM,zS,zL,reduceCtorEq,fits,yQ1,yQf,yZ8,yQk,decide_true,fits]))
 refine (hM _).mono ?_;rintro _ st ⟨⟨t,ys,ht,hys,rfl⟩,rfl⟩;obtain⟨y,hy0,hy⟩:=hys.2 0 _ rfl;obtain rfl:ys=[y]:=by
  cases ys with
  | nil=>cases hy0
  | cons z zs =>
   obtain rfl:z=y:=by simpa using hy0
   cases zs with
   | nil=>rfl
   | cons w ws=>have:=hys.1;simp at this
 obtain⟨o,n,t1,x1,t2,x2,t3,x3,rfl,hf,e3,h3⟩:=hy;have hp2:IsSqs [⟨[faP,imPQ],[faP]⟩,⟨[faP,faQ,imPQ],[faQ]⟩] [sI ⟨[faP,imPQ],[faP]⟩,sI ⟨[faP,faQ,imPQ],[faQ]⟩]:=⟨_,_,rfl,yUf _ (by decide),_,_,rfl,yUf _ (by decide),rfl⟩
 have hS:=λst=>xVr gl _ _ t3 ⟨true,.full,2⟩ x3 [sI ⟨[faP,imPQ],[faP]⟩,sI ⟨[faP,faQ,imPQ],[faQ]⟩] e3 (by simp[okEs]) (xWg h3) hp2 st;simp only[go_sem,zE,zB,zA,zM,zS,zL,reduceCtorEq,fits];refine (hL1 _).mono ?_;rintro _ st ⟨rfl,rfl⟩;simp only[go_sem,zE,zB,zA,zM,zS,zL,reduceCtorEq,fits];refine (hR1 _).mono ?_;rintro _ st ⟨rfl,rfl⟩;simp only[go_sem,zE,zB,zA,zM,zS,zL,reduceCtorEq,fits];refine (hC1 _).mono ?_;rintro _ st ⟨rfl,rfl⟩;have hz:IntKind.i64.wrap ((0:Int)+(0:Int))=0:=rfl;have ht2:=yQ3 ht;have d1:decide (((2:Nat):Int)=2)=true:=rfl;have d2:decide ((c1K.length:Int)=3)=true:=rfl;have d3:decide (((9:Nat):Int)=9)=true:=rfl;have d4:decide (((1:Nat):Int)=1)=true:=rfl;have z0:((0:Int)<=0)=True:=eq_true (by decide);have z1:Int.toNat 0=0:=rfl;simp only[go_sem,zE,zB,zA,zM,zS,zL,reduceCtorEq,fits,hz,ht2,d1,d2,d3,d4,z0,z1,decide_true]
 repeat (first
  | (refine (h_p gl _ _).mono ?_;rintro _ st ⟨rfl,rfl⟩;simp only[go_sem,zE,zB,zA,zM,zS,zL,reduceCtorEq,fits,yQ1,yQf,yZ8,yQk,decide_true,fits])
  | (refine (h_no gl _ _ _ _ _ _ _).mono ?_;rintro _ st ⟨rfl,rfl⟩;simp only[go_sem,zE,zB,zA,zM,zS,zL,reduceCtorEq,fits,yQ1,yQf,yZ8,yQk,decide_true,fits])
  | (refine (zG6 gl _ _ _ _ _ _ _ _ _ _ _ _ _ _).mono ?_;rintro _ st ⟨rfl,rfl⟩;simp only[go_sem,zE,zB,zA,zM,zS,zL,reduceCtorEq,fits,yQ1,yQf,yZ8,yQk,decide_true,fits])
  | (refine (h_fs gl _ _ _).mono ?_;rintro _ st ⟨rfl,rfl⟩;simp only[go_sem,zE,zB,zA,zM,zS,zL,reduceCtorEq,fits,yQ1,yQf,yZ8,yQk,decide_true,fits])
  | (refine (h_sq gl _ _ _ _ _).mono ?_;rintro _ st ⟨rfl,rfl⟩;simp only[go_sem,zE,zB,zA,zM,zS,zL,reduceCtorEq,fits,yQ1,yQf,yZ8,yQk,decide_true,fits]))
 refine (hS _).mono ?_;rintro _ st ⟨rfl,rfl⟩;have hq:eqB ([⟨[faP,imPQ],[faP]⟩,⟨[faP,faQ,imPQ],[faQ]⟩]:List Sq) [⟨[faP,imPQ],[faP]⟩,⟨[faP,faQ,imPQ],[faQ]⟩]=true:=yZ5.2 rfl;simp only[go_sem,zE,zB,zA,zM,zS,zL,reduceCtorEq,fits,hq,decide_true]
 repeat (first
  | (refine (h_p gl _ _).mono ?_;rintro _ st ⟨rfl,rfl⟩;simp only[go_sem,zE,zB,zA,zM,zS,zL,reduceCtorEq,fits,yQ1,yQf,yZ8,yQk,decide_true,fits])
  | (refine (h_no gl _ _ _ _ _ _ _).mono ?_;rintro _ st ⟨rfl,rfl⟩;simp only[go_sem,zE,zB,zA,zM,zS,zL,reduceCtorEq,fits,yQ1,yQf,yZ8,yQk,decide_true,fits])
  | (refine (zG6 gl _ _ _ _ _ _ _ _ _ _ _ _ _ _).mono ?_;rintro _ st ⟨rfl,rfl⟩;simp only[go_sem,zE,zB,zA,zM,zS,zL,reduceCtorEq,fits,yQ1,yQf,yZ8,yQk,decide_true,fits])
  | (refine (h_fs gl _ _ _).mono ?_;rintro _ st ⟨rfl,rfl⟩;simp only[go_sem,zE,zB,zA,zM,zS,zL,reduceCtorEq,fits,yQ1,yQf,yZ8,yQk,decide_true,fits])
  | (refine (h_sq gl _ _ _ _ _).mono ?_;rintro _ st ⟨rfl,rfl⟩;simp only[go_sem,zE,zB,zA,zM,zS,zL,reduceCtorEq,fits,yQ1,yQf,yZ8,yQk,decide_true,fits]))
 refine (hL2 _).mono ?_;rintro _ st ⟨rfl,rfl⟩;simp only[go_sem,zE,zB,zA,zM,zS,zL,reduceCtorEq,fits,yQ1,decide_true]
 repeat (first
  | (refine (h_p gl _ _).mono ?_;rintro _ st ⟨rfl,rfl⟩;simp only[go_sem,zE,zB,zA,zM,zS,zL,reduceCtorEq,fits,yQ1,yQf,yZ8,yQk,decide_true,fits])
  | (refine (h_no gl _ _ _ _ _ _ _).mono ?_;rintro _ st ⟨rfl,rfl⟩;simp only[go_sem,zE,zB,zA,zM,zS,zL,reduceCtorEq,fits,yQ1,yQf,yZ8,yQk,decide_true,fits])
  | (refine (zG6 gl _ _ _ _ _ _ _ _ _ _ _ _ _ _).mono ?_;rintro _ st ⟨rfl,rfl⟩;simp only[go_sem,zE,zB,zA,zM,zS,zL,reduceCtorEq,fits,yQ1,yQf,yZ8,yQk,decide_true,fits])
  | (refine (h_fs gl _ _ _).mono ?_;rintro _ st ⟨rfl,rfl⟩;simp only[go_sem,zE,zB,zA,zM,zS,zL,reduceCtorEq,fits,yQ1,yQf,yZ8,yQk,decide_true,fits])
  | (refine (h_sq gl _ _ _ _ _).mono ?_;rintro _ st ⟨rfl,rfl⟩;simp only[go_sem,zE,zB,zA,zM,zS,zL,reduceCtorEq,fits,yQ1,yQf,yZ8,yQk,decide_true,fits]))
 refine (hL3 _).mono ?_;rintro _ st ⟨rfl,rfl⟩;simp only[go_sem,zE,zB,zA,zM,zS,zL,reduceCtorEq,fits,yQ1,decide_true]
 repeat (first
  | (refine (h_p gl _ _).mono ?_;rintro _ st ⟨rfl,rfl⟩;simp only[go_sem,zE,zB,zA,zM,zS,zL,reduceCtorEq,fits,yQ1,yQf,yZ8,yQk,decide_true,fits])
  | (refine (h_no gl _ _ _ _ _ _ _).mono ?_;rintro _ st ⟨rfl,rfl⟩;simp only[go_sem,zE,zB,zA,zM,zS,zL,reduceCtorEq,fits,yQ1,yQf,yZ8,yQk,decide_true,fits])
  | (refine (zG6 gl _ _ _ _ _ _ _ _ _ _ _ _ _ _).mono ?_;rintro _ st ⟨rfl,rfl⟩;simp only[go_sem,zE,zB,zA,zM,zS,zL,reduceCtorEq,fits,yQ1,yQf,yZ8,yQk,decide_true,fits])
  | (refine (h_fs gl _ _ _).mono ?_;rintro _ st ⟨rfl,rfl⟩;simp only[go_sem,zE,zB,zA,zM,zS,zL,reduceCtorEq,fits,yQ1,yQf,yZ8,yQk,decide_true,fits])
  | (refine (h_sq gl _ _ _ _ _).mono ?_;rintro _ st ⟨rfl,rfl⟩;simp only[go_sem,zE,zB,zA,zM,zS,zL,reduceCtorEq,fits,yQ1,yQf,yZ8,yQk,decide_true,fits]))
 refine (hR3 _).mono ?_;rintro _ st ⟨rfl,rfl⟩;simp only[go_sem,zE,zB,zA,zM,zS,zL,reduceCtorEq,fits,yQ1,decide_true]
 repeat (first
  | (refine (h_p gl _ _).mono ?_;rintro _ st ⟨rfl,rfl⟩;simp only[go_sem,zE,zB,zA,zM,zS,zL,reduceCtorEq,fits,yQ1,yQf,yZ8,yQk,decide_true,fits])
  | (refine (h_no gl _ _ _ _ _ _ _).mono ?_;rintro _ st ⟨rfl,rfl⟩;simp only[go_sem,zE,zB,zA,zM,zS,zL,reduceCtorEq,fits,yQ1,yQf,yZ8,yQk,decide_true,fits])
  | (refine (zG6 gl _ _ _ _ _ _ _ _ _ _ _ _ _ _).mono ?_;rintro _ st ⟨rfl,rfl⟩;simp only[go_sem,zE,zB,zA,zM,zS,zL,reduceCtorEq,fits,yQ1,yQf,yZ8,yQk,decide_true,fits])
  | (refine (h_fs gl _ _ _).mono ?_;rintro _ st ⟨rfl,rfl⟩;simp only[go_sem,zE,zB,zA,zM,zS,zL,reduceCtorEq,fits,yQ1,yQf,yZ8,yQk,decide_true,fits])
  | (refine (h_sq gl _ _ _ _ _).mono ?_;rintro _ st ⟨rfl,rfl⟩;simp only[go_sem,zE,zB,zA,zM,zS,zL,reduceCtorEq,fits,yQ1,yQf,yZ8,yQk,decide_true,fits]))
 refine (hL4 _).mono ?_;rintro _ st ⟨rfl,rfl⟩;simp only[go_sem,zE,zB,zA,zM,zS,zL,reduceCtorEq,fits,yQ1,decide_true]
 repeat (first
  | (refine (h_p gl _ _).mono ?_;rintro _ st ⟨rfl,rfl⟩;simp only[go_sem,zE,zB,zA,zM,zS,zL,reduceCtorEq,fits,yQ1,yQf,yZ8,yQk,decide_true,fits])
  | (refine (h_no gl _ _ _ _ _ _ _).mono ?_;rintro _ st ⟨rfl,rfl⟩;simp only[go_sem,zE,zB,zA,zM,zS,zL,reduceCtorEq,fits,yQ1,yQf,yZ8,yQk,decide_true,fits])
  | (refine (zG6 gl _ _ _ _ _ _ _ _ _ _ _ _ _ _).mono ?_;rintro _ st ⟨rfl,rfl⟩;simp only[go_sem,zE,zB,zA,zM,zS,zL,reduceCtorEq,fits,yQ1,yQf,yZ8,yQk,decide_true,fits])
  | (refine (h_fs gl _ _ _).mono ?_;rintro _ st ⟨rfl,rfl⟩;simp only[go_sem,zE,zB,zA,zM,zS,zL,reduceCtorEq,fits,yQ1,yQf,yZ8,yQk,decide_true,fits])
  | (refine (h_sq gl _ _ _ _ _).mono ?_;rintro _ st ⟨rfl,rfl⟩;simp only[go_sem,zE,zB,zA,zM,zS,zL,reduceCtorEq,fits,yQ1,yQf,yZ8,yQk,decide_true,fits]))
 refine (hP3 _).mono ?_;rintro _ st ⟨rfl,rfl⟩;simp only[go_sem,zE,zB,zA,zM,zS,zL,reduceCtorEq,fits,yQ1,decide_true]
 repeat (first
  | (refine (h_p gl _ _).mono ?_;rintro _ st ⟨rfl,rfl⟩;simp only[go_sem,zE,zB,zA,zM,zS,zL,reduceCtorEq,fits,yQ1,yQf,yZ8,yQk,decide_true,fits])
  | (refine (h_no gl _ _ _ _ _ _ _).mono ?_;rintro _ st ⟨rfl,rfl⟩;simp only[go_sem,zE,zB,zA,zM,zS,zL,reduceCtorEq,fits,yQ1,yQf,yZ8,yQk,decide_true,fits])
  | (refine (zG6 gl _ _ _ _ _ _ _ _ _ _ _ _ _ _).mono ?_;rintro _ st ⟨rfl,rfl⟩;simp only[go_sem,zE,zB,zA,zM,zS,zL,reduceCtorEq,fits,yQ1,yQf,yZ8,yQk,decide_true,fits])
  | (refine (h_fs gl _ _ _).mono ?_;rintro _ st ⟨rfl,rfl⟩;simp only[go_sem,zE,zB,zA,zM,zS,zL,reduceCtorEq,fits,yQ1,yQf,yZ8,yQk,decide_true,fits])
  | (refine (h_sq gl _ _ _ _ _).mono ?_;rintro _ st ⟨rfl,rfl⟩;simp only[go_sem,zE,zB,zA,zM,zS,zL,reduceCtorEq,fits,yQ1,yQf,yZ8,yQk,decide_true,fits]))
 refine (hL5 _).mono ?_;rintro _ st ⟨rfl,rfl⟩;simp only[go_sem,zE,zB,zA,zM,zS,zL,reduceCtorEq,fits];refine (hL6 _).mono ?_;rintro _ st ⟨rfl,rfl⟩;simp only[go_sem,zE,zB,zA,zM,zS,zL,reduceCtorEq,fits,hz,decide_true,show decide (((3:Nat):Int)=3)=true from rfl,show decide (((4:Nat):Int)=4)=true from rfl,show decide (((7:Nat):Int)=7)=true from rfl,show decide ((c3K.length:Int)=4)=true from rfl,show decide (((0:Nat):Int)=0)=true from rfl];exact yQ0 ⟨rfl,rfl⟩
end Go.Proofs.Tryz
namespace Go.Proofs.Tryz
open Go Go.Iv
set_option maxRecDepth 4000
variable (gl:Nat->Option IV)
theorem zYw (ents:Array MapEntry):yYh ents #[]=ents.toList:=by
 unfold yYh;rw[List.filter_eq_self];intro e _;simp
theorem xYv {ents:Array MapEntry}{seen:Array Nat}{e:MapEntry}(h:e∈yYh ents seen):e∈ents.toList:=(List.mem_filter.1 h).1
theorem xKy {ents:Array MapEntry}(hn:(ents.toList.map (·.born)).Nodup)(seen:Array Nat){e:MapEntry}(h:e∈ents.toList):xGg ents (seen.push e.born)=keyI e.key:=by
 have hf:ents.toList.find? (λx=>x.born == e.born)=some e:=find_born e ents.toList hn h;unfold xGg;rw[Array.back?_push,Option.bind_some,hf,Option.bind_some]
theorem xKw {ents:Array MapEntry}(hn:(ents.toList.map (·.born)).Nodup){seen:Array Nat}{e:MapEntry}(h:e∈yYh ents seen):(yYh ents (seen.push e.born)).length+1=(yYh ents seen).length:=by
 unfold yYh at h ⊢;generalize ents.toList=l at h hn
 induction l with
 | nil=>cases h
 | cons a l ih =>
  rw[List.map_cons,List.nodup_cons] at hn;by_cases hae:a=e
  ·subst hae;have h1:seen.contains a.born=false:=by simpa using (List.mem_filter.1 h).2
   have h2:(seen.push a.born).contains a.born=true:=by simp
   rw[List.filter_cons_of_neg (by rw[h2];simp),List.filter_cons_of_pos (by rw[h1];rfl),List.length_cons];congr 2;apply List.filter_congr;intro x hx;have hne:x.born≠a.born:=λhq=>hn.1 (hq▸List.mem_map_of_mem hx);simp[hne]
  ·have hm:e∈l.filter λe=>!seen.contains e.born:=by
    have h':=List.mem_filter.1 h;rcases List.mem_cons.1 h'.1 with hq|hq
    ·exact absurd hq.symm hae
    ·exact List.mem_filter.2 ⟨hq,h'.2⟩
   have hel:e∈l:=(List.mem_filter.1 hm).1;have hne:a.born≠e.born:=λhq=>hn.1 (hq▸List.mem_map_of_mem hel);have hi:=ih hm hn.2;have hc:(seen.push e.born).contains a.born=seen.contains a.born:=by
    simp[hne]
   rw[List.filter_cons,List.filter_cons,hc];split
   ·rw[List.length_cons,List.length_cons,<- hi]
   ·exact hi
def wK0 (b:Nat):IV:=.fn (.func 191) [] [.raw (.pointer (some ⟨b,0,none⟩))]
theorem wYg (m:Nat)(st:ISt) :
  ICall prog gl 140 [.raw (.map (some m))] st (λr st'=>∃b,st b=none/\r=wK0 b/\st'=st.put b (some (.box [.raw (.map (some m))]))):=by
 refine ICall.intro (c:=cf prog gl [1] []) func140 rfl (by show _<=4;simp) (by kernel_rfl) ?_;simp only[go_sem,zE];refine λb=>yQ9 λhb=>?_;exact yQ0 ⟨b,hb,rfl,rfl⟩
structure EntOk (ents:Array MapEntry)(clock:Nat):Prop where
 key:∀e∈ents.toList,∃s n,keyI e.key=some (.agg [.raw (.string s),.raw (.int .i64 n)])
 born:∀e∈ents.toList,e.born<clock
 nd:(ents.toList.map (·.born)).Nodup
def symH (ents:Array MapEntry)(h:List MapEntry)(a:List IV)(h':List MapEntry):Prop:=h.length<ents.toList.length/\∃e∈ents.toList,∃x,keyI e.key=some x/\a=[x]/\h'=h++[e]
def finH (ents:Array MapEntry)(h:List MapEntry):Prop:=h.length=ents.toList.length/\(∀e∈ents.toList,e∈h)/\∀e∈h,e∈ents.toList
theorem wX1 {ents:Array MapEntry}{seen:Array Nat}{h:List MapEntry}{e:MapEntry}(hn:(ents.toList.map (·.born)).Nodup)(he:e∈ents.toList)(hc:∀e∈ents.toList,e∈h\/e∈yYh ents seen):∀x∈ents.toList,x∈h++[e]\/x∈yYh ents (seen.push e.born):=λx hx=>by
 by_cases hxe:x.born=e.born
 ·left;have h1:=find_born e ents.toList hn he;have h2:=find_born x ents.toList hn hx;rw[hxe,h1] at h2;rw[<- Option.some.inj h2];simp
 ·rcases hc x hx with h1|h1
  ·exact .inl (List.mem_append_left _ h1)
  ·refine .inr (List.mem_filter.2 ⟨hx,?_⟩);have h2:seen.contains x.born=false:=by simpa using (List.mem_filter.1 h1).2
   have h3:(seen.push e.born).contains x.born=false:=by
    simp only[Array.contains_eq_mem,Array.mem_push,decide_eq_false_iff_not] at h2 ⊢;simp[hxe,h2]
   rw[h3];rfl
theorem wJ4 (m b clock:Nat)(ents:Array MapEntry)(hE:EntOk ents clock):xZh prog gl 191 [] [.raw (.pointer (some ⟨b,0,none⟩))] (yUl (symH ents)) [] (finH ents)
  (λ_ st=>st b=some (.box [.raw (.map (some m))])/\st m=some (.mapx ents clock)) noUp:=by
 rintro y I' S' st ⟨g,fi,ca,rfl,hfn,hent⟩ hI _ hy h0;change ICall prog gl _ [.fn g fi ca,_] st _;obtain⟨stu0,hs0,hb0,hm0⟩:=hI [] st h0;have hb:=hs0 _ _ hb0;have hm:=hs0 _ _ hm0;refine iI func191 ?_;simp only[go_sem,zE,zB,zA,zM,zS,zL,reduceCtorEq,fits,hb,hm];refine λr=>yQ9 λhr=>?_;have hrb:b≠r:=yKl hb hr;have hrm:m≠r:=yKl hm hr;have hchk:((∀e∈ents.toList,e.born<clock/\(keyI e.key).isSome=true)/\clock<=clock)=True:=eq_true ⟨λe he=>⟨hE.born e he,by obtain⟨s,n,hk⟩:=hE.key e he;rw[hk];rfl⟩,Nat.le_refl _⟩;have hnd:(ents.toList.map (·.born)).Nodup=True:=eq_true hE.nd;refine LoopC.dec ents.toList.length (λk fr st' ds=>(∃seen stu h,(yYh ents seen).length=k/\h.length+k=ents.toList.length/\((∀e∈ents.toList,e∈h\/e∈yYh ents seen)/\∀e∈h,e∈ents.toList)/\stu r=none/\st'=stu.put r (some (.iter m clock seen clock))/\I' h stu)/\k<=ents.toList.length/\fr 0=.iv (.fn g fi ca)/\fr 5=.iv (.raw (.pointer (some ⟨r,0,none⟩)))/\ds=[]) ?_ ?_
 ·simp only[go_sem,zE,zB,zA,zM,zS,zL,reduceCtorEq];exact⟨⟨#[],st,[],by rw[zYw],Nat.zero_add _,⟨λe he=>.inr (by rw[zYw];exact he),λe he=>by cases he⟩,hr,rfl,h0⟩,Nat.le_refl _⟩
 ·rintro k fr _ _ ⟨⟨seen,stu,hs,hlen,hhl,hcov,hr,rfl,hIk⟩,hkl,f0,f5,rfl⟩;obtain⟨stu0,hs0,hb0,hm0⟩:=hI _ stu hIk;have hm:=hs0 _ _ hm0;have hb:=hs0 _ _ hb0;simp only[go_sem,zE,zB,zA,zM,zS,zL,reduceCtorEq,f0,f5,ISt.put_same,yQ6 hrm,yQ6 hrb,hm,hb,hchk];refine⟨λhnil=>?_,λe he x hx=>?_⟩
  ·simp only[go_sem,zE,zB,zA,zM,zS,zL,reduceCtorEq,f0,f5];refine yQs (yQp hr) (.inl ⟨hs,⟨by rw[hnil] at hlen;simp at hlen;omega,λe he=>(hcov.1 e he).resolve_right (by rw[hnil];simp),hcov.2⟩,hIk⟩)
  ·have hem:=xYv he;obtain⟨s,n,hk⟩:=hE.key e hem;rw[hk] at hx;cases hx;have hlast:=xKy hE.nd seen hem;rw[hk] at hlast;have hpush:=xKw hE.nd he;simp only[go_sem,zE,zB,zA,zM,zS,zL,reduceCtorEq,f0,f5,ISt.put_same,yQ6 hrm,hm,hnd,hlast,yQ8];refine yZd hent ((ICallV.put gl (show ICallV prog gl _ [_] stu _ from hy hs _ (λ_=>none) (hs++[e]) stu ⟨⟨by omega,e,hem,_,hk,rfl,rfl⟩,rfl⟩ (λ_ hb=>absurd rfl hb) hIk) hr _).mono ?_);rintro _ _ ⟨stu',hr',rfl,⟨rfl,s1,h,_,rfl⟩|⟨rfl,h⟩⟩
   ·simp only[go_sem,zE,zB,zA,zM,zS,zL,reduceCtorEq,f0,f5];exact⟨(yYh ents (seen.push e.born)).length,by omega,⟨seen.push e.born,_,hs++[e],rfl,by rw[lLa,List.length_singleton];omega,⟨wX1 hE.nd hem hcov.1,λx hx=>by rcases List.mem_append.1 hx with h1|h1;exact hcov.2 x h1;rw[List.mem_singleton.1 h1];exact hem⟩,hr',rfl,h⟩,by omega⟩
   ·simp only[go_sem,zE,zB,zA,zM,zS,zL,reduceCtorEq,f0,f5];exact yQs (yQp hr') (.inr h)
theorem one_sl (a:Option Addr)(n c:Nat):IV.one (.raw (.slice a n c))=true:=rfl
theorem put3 (s:ISt)(b g:Nat)(x y z:Option IObj):((s.put b x).put g y).put b z=(s.put g y).put b z:=by
 funext c;simp only[ISt.put_apply];by_cases h:c=b
 ·rw[if_pos h,if_pos h]
 ·rw[if_neg h,if_neg h,if_neg h]
theorem put4 (s:ISt)(b g h:Nat)(x y u z:Option IObj):(((s.put b x).put g y).put h u).put b z=((s.put g y).put h u).put b z:=by
 funext c;simp only[ISt.put_apply];by_cases hc:c=b
 ·rw[if_pos hc,if_pos hc]
 ·rw[if_neg hc,if_neg hc,if_neg hc]
def keyD (e:MapEntry):IV:=(keyI e.key).getD (.raw (.bool true))
def wJ3 (st:ISt)(h:List MapEntry)(r:IV)(st':ISt):Prop:=∃xs:List IV,xs.Perm (h.map keyD) /\
 ((h=[]/\∃f e,r=.sl ⟨f,.nil,e⟩ [])\/∃g cap cs,h≠[]/\st g=none/\r=.raw (.slice (some ⟨g,0,none⟩) h.length cap)/\st' g=some (.box cs)/\h.length<=cap/\cap*2<=cs.length/\cs.take (h.length*2)=xs.flatMap IV.cells)
theorem zU2 (g:FuncId)(caps:List IV)(ents:Array MapEntry)(hE:∀e∈ents.toList,∃s n,keyI e.key=some (.agg [.raw (.string s),.raw (.int .i64 n)]))(hlen:ents.toList.length<=1000000000)(st:ISt)(he:entI prog g=true)(Base:ISt->Prop)(hB:Base st)
  (hi:xZh prog gl g [] caps (yUl (symH ents)) [] (finH ents) (λ_=>Base) noUp) (f:Bool) (es:Nat) :
  ICall prog gl 231 [.sl ⟨f,.nil,es⟩ [],.fn (.func g) [] caps] st (λr st'=>(∃h,finH ents h/\wJ3 st h r st')/\subSt st st'):=by
 refine ICall.intro (c:=cf prog gl [2,11] []) func231 rfl (by show _<=13;simp) (by kernel_rfl) ?_;simp only[go_sem,zE,zB,zA,zM,zS,zL,reduceCtorEq,fits];refine λb=>yQ9 λhb=>?_;refine RangeH.intro (symH ents) [] (finH ents) (λh st'=>h.length<=ents.toList.length/\∃cell s1,s1 b=none/\st'=s1.put b (some (.box [cell]))/\wJ3 st h cell s1/\subSt st s1) (λ_ _=>False) he ?_ ?_ ?_ ?_ ?_ (λ_ _ _ h=>h.elim)
 ·rintro h a h' ⟨_,e,_,x,_,rfl,_⟩;rfl
 ·exact⟨Nat.zero_le _,_,st,hb,rfl,⟨[],.nil,.inl ⟨rfl,f,es,rfl⟩⟩,subSt.refl _⟩
 ·rintro h a h' _ ⟨hkn,e,hem,x,hx,rfl,rfl⟩ ⟨_,cell,s1,hbn,rfl,⟨xs,hxl,hcell⟩,hsub⟩;obtain⟨s,n,hk⟩:=hE e hem;rw[hk] at hx;cases hx;have hke:keyD e=.agg [.raw (.string s),.raw (.int .i64 n)]:=by unfold keyD;rw[hk];rfl
  have hlen':(h++[e]).length=h.length+1:=by simp
  rcases hcell with⟨rfl,f,es,rfl⟩|⟨g2,cap,cs,hk0,hgn,rfl,hg,hkc,hcc,htk⟩
  ·simp only[go_sem,zE,zB,zA,zM,zS,zL,reduceCtorEq,ISt.put_same,fits,show yJn 1 [(0,Operand.tmp 9)]=true from rfl];refine λg cap=>yQ9 λ⟨hg,hc⟩=>?_;have hgb:g≠b:=by rintro rfl;rw[ISt.put_same] at hg;cases hg
   rw[yQ6 hgb] at hg;simp only[go_sem,zE,zB,zA,zM,zS,zL,reduceCtorEq,ISt.put_same,yQ6 hgb.symm,fits,one_sl];refine⟨by omega,_,_,?_,put3 ..,⟨[.agg [.raw (.string s),.raw (.int .i64 n)]],?_,.inr ⟨g,cap,_,by simp,?_,rfl,ISt.put_same ..,hc,?_,?_⟩⟩,hsub.trans (yQp hg)⟩
   ·rw[yQ6 hgb.symm];exact hbn
   ·simp[hke]
   ·cases hq:st g with
    | none=>rfl
    | some o=>have:=hsub _ _ hq;rw[hg] at this;cases this
   ·simp[IV.cells];omega
   ·simp[IV.cells]
  ·have hgb:g2≠b:=yKl hg hbn;simp only[go_sem,zE,zB,zA,zM,zS,zL,reduceCtorEq,ISt.put_same,yQ6 hgb,fits,show yJn 1 [(0,Operand.tmp 9)]=true from rfl];refine yXd _ _ _ (cs:=cs) (by rw[yQ6 hgb];exact hg) (by simp[fits,IV.one,IV.cells]) ⟨by show (h.length+1)*24<=_;omega,by show h.length+1<=_;omega⟩ ⟨hkc,by show cap*2<=_;omega⟩ (by simp[IV.cells]) ?_;rintro g cap' cs' hgn' hc1 hc2 htk';have hgb':g≠b:=by
    rcases hgn' with rfl|h
    ·exact hgb
    ·rintro rfl;rw[ISt.put_same] at h;cases h
   have hs1g:g=g2\/s1 g=none:=hgn'.imp id λh=>by rwa [yQ6 hgb'] at h
   have hstg:st g=none:=by
    rcases hs1g with rfl|h
    ·exact hgn
    ·cases hq:st g with
     | none=>rfl
     | some o=>have:=hsub _ _ hq;rw[h] at this;cases this
   simp only[go_sem,zE,zB,zA,zM,zS,zL,reduceCtorEq,ISt.put_same,yQ6 hgb.symm,yQ6 hgb'.symm,fits,one_sl];refine⟨by omega,_,_,?_,put4 ..,⟨xs++[.agg [.raw (.string s),.raw (.int .i64 n)]],?_,.inr ⟨g,cap',cs',by simp,hstg,by rw[hlen'],ISt.put_same ..,by rw[hlen'];exact hc1,hc2,?_⟩⟩,λc o hc=>?_⟩
   ·rw[yQ6 hgb'.symm,yQ6 hgb.symm];exact hbn
   ·rw[List.map_append,List.map_singleton,hke];exact hxl.append_right _
   ·have:cs'.take ((h++[e]).length*2)=cs.take (h.length*2)++[.raw (.string s),.raw (.int .i64 n)]:=by rw[hlen'];simpa[IV.cells] using htk'
    rw[this,htk];simp[IV.cells]
   ·rw[yQ6 (by rintro rfl;rw[hstg] at hc;cases hc),yQ6 (by rintro rfl;rw[hgn] at hc;cases hc)];exact hsub _ _ hc
 ·rintro y I' S' st' hfn hI hup hy h0;refine hi y I' S' st' hfn (λk stu hk=>?_) hup hy h0;obtain⟨stu0,hs,_,cell,s1,hbn,rfl,_,hsub⟩:=hI k stu hk;exact⟨st,λc o hc=>hs _ _ (yQp hbn _ _ (hsub _ _ hc)),hB⟩
 ·rintro h _ r hfin ⟨_,cell,s1,hbn,rfl,hsy,hsub⟩;have hci:ivOf (.iv cell)=some cell:=by
   obtain⟨xs,_,⟨_,f,e,rfl⟩|⟨g,cap,cs,_,_,rfl,_⟩⟩:=hsy<;>rfl
  have hc1:fits false 1 cell=true:=by
   obtain⟨xs,_,⟨_,f,e,rfl⟩|⟨g,cap,cs,_,_,rfl,_⟩⟩:=hsy<;>rfl
  simp only[go_sem,zE,zB,zA,zM,zS,zL,reduceCtorEq,ISt.put_same,fits,hci,hc1];refine yQs (st':=s1) (yQp hbn) ⟨⟨h,hfin,?_⟩,hsub⟩;exact hsy
end Go.Proofs.Tryz
namespace Go.Proofs
open Go.Shelf
def Tryz.sortSL_ren:Go.Shelf.Ren:=⟨λ| 6=>190|15=>121|14=>232|28=>162|29=>163|20=>250|21=>251|22=>252|23=>253|24=>254|25=>255|26=>256|27=>257|46=>273|47=>203|48=>204|49=>274|50=>275|57=>292|n=>n,λ| 22=>166|24=>169|25=>236|3=>3|39=>185|0=>0|53=>262|55=>264|4=>4|46=>256|45=>255|50=>125|5=>5|9=>9|66=>286|70=>290|76=>307|77=>308|n=>n,λ| n=>n⟩
theorem Tryz.sortSL:Go.Proofs.SlLaysF0.n6 Tryz.prog Tryz.sortSL_ren:={
 mixed:=by kernel_rfl
 f6:=⟨Tryz.f190.name,by decide,Tryz.func190.trans (congrArg some (by kernel_rfl))⟩
 f14:=⟨Tryz.f232.name,by decide,Tryz.func232.trans (congrArg some (by kernel_rfl))⟩
 f15:=Tryz.func121.trans (congrArg some (by kernel_rfl))
 f20:=⟨Tryz.f250.name,by decide,Tryz.func250.trans (congrArg some (by kernel_rfl))⟩
 f21:=⟨Tryz.f251.name,by decide,Tryz.func251.trans (congrArg some (by kernel_rfl))⟩
 f22:=⟨Tryz.f252.name,by decide,Tryz.func252.trans (congrArg some (by kernel_rfl))⟩
 f23:=⟨Tryz.f253.name,by decide,Tryz.func253.trans (congrArg some (by kernel_rfl))⟩
 f24:=⟨Tryz.f254.name,by decide,Tryz.func254.trans (congrArg some (by kernel_rfl))⟩
 f25:=⟨Tryz.f255.name,by decide,Tryz.func255.trans (congrArg some (by kernel_rfl))⟩
 f26:=⟨Tryz.f256.name,by decide,Tryz.func256.trans (congrArg some (by kernel_rfl))⟩
 f27:=⟨Tryz.f257.name,by decide,Tryz.func257.trans (congrArg some (by kernel_rfl))⟩
 f28:=Tryz.func162.trans (congrArg some (by kernel_rfl))
 f29:=Tryz.func163.trans (congrArg some (by kernel_rfl))
 f46:=⟨Tryz.f273.name,by decide,Tryz.func273.trans (congrArg some (by kernel_rfl))⟩
 f47:=Tryz.func203.trans (congrArg some (by kernel_rfl))
 f48:=Tryz.func204.trans (congrArg some (by kernel_rfl))
 f49:=⟨Tryz.f274.name,by decide,Tryz.func274.trans (congrArg some (by kernel_rfl))⟩
 f50:=⟨Tryz.f275.name,by decide,Tryz.func275.trans (congrArg some (by kernel_rfl))⟩
 f57:=⟨Tryz.f292.name,by decide,Tryz.func292.trans (congrArg some (by kernel_rfl))⟩
 t0:=Tryz.underlying0
 a0:=Tryz.isAgg0
 z0:=Tryz.sizeOf0
 v0:=Tryz.zeroValue0
 t3:=Tryz.underlying3
 a3:=Tryz.isAgg3
 z3:=Tryz.sizeOf3
 v3:=Tryz.zeroValue3
 t4:=Tryz.underlying4
 a4:=Tryz.isAgg4
 z4:=Tryz.sizeOf4
 v4:=Tryz.zeroValue4
 t5:=Tryz.underlying5
 a5:=Tryz.isAgg5
 z5:=Tryz.sizeOf5
 v5:=Tryz.zeroValue5
 t9:=Tryz.underlying9
 a9:=Tryz.isAgg9
 z9:=Tryz.sizeOf9
 v9:=Tryz.zeroValue9
 t22:=Tryz.underlying166
 a22:=Tryz.isAgg166
 z22:=Tryz.sizeOf166
 v22:=Tryz.zeroValue166
 t25:=Tryz.underlying236
 a25:=Tryz.isAgg236
 z25:=Tryz.sizeOf236
 v25:=Tryz.zeroValue236
 t39:=Tryz.underlying185
 a39:=Tryz.isAgg185
 z39:=Tryz.sizeOf185
 v39:=Tryz.zeroValue185
 t45:=Tryz.underlying255
 a45:=Tryz.isAgg255
 z45:=Tryz.sizeOf255
 v45:=Tryz.zeroValue255
 t46:=Tryz.underlying256
 a46:=Tryz.isAgg256
 z46:=Tryz.sizeOf256
 v46:=Tryz.zeroValue256
 t50:=Tryz.underlying125
 a50:=Tryz.isAgg125
 z50:=Tryz.sizeOf125
 v50:=Tryz.zeroValue125
 t53:=Tryz.underlying262
 a53:=Tryz.isAgg262
 z53:=Tryz.sizeOf262
 v53:=Tryz.zeroValue262
 t55:=Tryz.underlying264
 a55:=Tryz.isAgg264
 z55:=Tryz.sizeOf264
 v55:=Tryz.zeroValue264
 t66:=Tryz.underlying286
 a66:=Tryz.isAgg286
 z66:=Tryz.sizeOf286
 v66:=Tryz.zeroValue286
 t70:=Tryz.underlying290
 a70:=Tryz.isAgg290
 z70:=Tryz.sizeOf290
 v70:=Tryz.zeroValue290
 t76:=Tryz.underlying307
 a76:=Tryz.isAgg307
 z76:=Tryz.sizeOf307
 v76:=Tryz.zeroValue307
 t77:=Tryz.underlying308
 a77:=Tryz.isAgg308
 z77:=Tryz.sizeOf308
 v77:=Tryz.zeroValue308 }
namespace Tryz
open Go Go.Iv
theorem xZv:tyI Tryz.prog (Tryz.sortSL_ren.t 24)=some (true,2):=by kernel_rfl
theorem xWo (w:World):(isAgg (Tryz.sortSL_ren.t 24)).run Tryz.prog w=.ok true w:=(yZo xZv w).1
theorem xK7 (w:World):(Go.sizeOf (Tryz.sortSL_ren.t 24)).run Tryz.prog w=.ok 2 w:=(yZo xZv w).2
end Tryz
end Go.Proofs
namespace Go.Proofs.Tryz
set_option maxRecDepth 4000
open Go Go.Iv Go.Sort Go.Shelf Go.RowKit
variable (gl:Nat->Option IV)
theorem xZf (g:FuncId)(hent:∀args w,(callFunc g args).run prog w=.ok (.enter g args) w)(xs rest:List IV)(b cap:Nat)(st:ISt)(hne:xs≠[])(hlen:xs.length<=140737488355328)(hx:∀x∈xs,fits true 2 x=true)(hb:st b=some (.box (xs.flatMap IV.cells++rest)))(cf:IV->IV->Int)
  (h1:∀x∈xs,¬ cf x x<0) (h2:∀x∈xs,∀y∈xs,∀z∈xs,cf x y<0->cf y z<0->cf x z<0) (h3:∀x∈xs,∀y∈xs,∀z∈xs,¬ cf x y<0->¬ cf y z<0->¬ cf x z<0)
  (hcmp:∀x∈xs,∀y∈xs,ICall prog (λ_=>none) g [x,y] (λ_=>none) (λr _=>r=.raw (.int .i64 (cf x y)))) :
  ICall prog gl 190 [.raw (.slice (some ⟨b,0,none⟩) xs.length cap),.fn (.func g) [] []] st
   (λr st'=>r=.tup []/\∃ys:List IV,ys.Perm xs/\ys.Pairwise (λx y=>¬ cf y x<0)/\st'=st.put b (some (.box (ys.flatMap IV.cells++rest)))):=by
 intro B X rs hg hst hv;subst hst;obtain⟨r0,r1,rfl⟩:∃r0 r1,rs=[r0,r1]:=by
  match rs,hv with
  | [a,b],_=>exact⟨a,b,rfl⟩
  | [],hv=>cases hv.1
  | [_],hv=>cases hv.1
  | _::_::_::_,hv=>cases hv.1
 obtain rfl:=V.raw_inv (hv.2 0 r0 _ rfl rfl);obtain⟨f1,f2,rfl,hf1,hf2⟩:=V.fn_inv (hv.2 1 r1 _ rfl rfl);obtain rfl:f1=[]:=List.eq_nil_of_length_eq_zero hf1.1;obtain rfl:f2=[]:=List.eq_nil_of_length_eq_zero hf2.1;obtain⟨hL,c,T,hh,hvl⟩:=hg.ok b _ hb;have hblk:b<X.w.heap.size:=hg.lt hb;have hcells:∀x∈xs,x.cells.length=2:=λx hxm=>(yZq (hx x hxm)).2.1;have hcl:c.size=xs.length*2+rest.length:=by
  have:=hvl.1;rw[lLa,yQo xs hcells,Array.length_toList] at this;exact this
 -- the elements
 let α:={ p:IV×List Value // p.1∈xs/\VL B X.L X.w p.2 p.1.cells }
 have hel:∀(l:List IV) (vs:List Value),(∀x∈l,x∈xs)->VL B X.L X.w vs (l.flatMap IV.cells)->∃d:List α,d.map (λa=>a.1.1)=l/\d.flatMap (λa=>a.1.2)=vs:=by
  intro l
  induction l with
  | nil =>
   intro vs _ hvs;exact⟨[],rfl,(List.eq_nil_of_length_eq_zero hvs.1).symm⟩
  | cons x l ih =>
   intro vs hm hvs;have hx4:=hcells x (hm x (by simp));have hlv:vs.length=2+(l.flatMap IV.cells).length:=by rw[hvs.1,List.flatMap_cons,lLa,hx4]
   have ha:VL B X.L X.w (vs.take 2) x.cells:=by
    have:=hvs.take 2
    rwa [List.flatMap_cons,List.take_left' hx4] at this
   have hbv:VL B X.L X.w (vs.drop 2) (l.flatMap IV.cells):=by
    have:=hvs.drop 2
    rwa [List.flatMap_cons,List.drop_left' hx4] at this
   obtain⟨d,hd1,hd2⟩:=ih (vs.drop 2) (λy hy=>hm y (by simp[hy])) hbv;exact⟨⟨(x,vs.take 2),hm x (by simp),ha⟩::d,by simp[hd1],by simp[hd2]⟩
 obtain⟨d,hd1,hd2⟩:=hel xs (c.toList.take (xs.length*2)) (λ_ h=>h) (by
  have:=hvl.take (xs.length*2)
  rwa [List.take_left' (yQo xs hcells)] at this)
 have hdl:d.length=xs.length:=by rw[<- hd1,List.length_map]
 have hdn:d≠[]:=by rintro rfl;exact hne (List.eq_nil_of_length_eq_zero hdl.symm)
 letI:Inhabited α:=⟨d.head hdn⟩
 let enc:α->List Value:=λa=>a.1.2
 have hk:∀a:α,(enc a).length=2:=λa=>by rw[a.2.2.1];exact hcells _ a.2.1
 have hone:∀(a:α),∀v∈enc a,v.oneCell'=true:=λa v hv=>yVp (C:=⟨prog,gl,B⟩) a.2.2 (yZq (hx _ a.2.1)).2.2.1 v hv
 let cf':α->α->Int:=λa a'=>cf a.1.1 a'.1.1
 have hO:SWO (ltOf cf'):=⟨λa=>by simp only[ltOf,decide_eq_false_iff_not];exact h1 _ a.2.1,λa a' a'' p q=>by
   simp only[ltOf,dTe] at p q ⊢;exact h2 _ a.2.1 _ a'.2.1 _ a''.2.1 p q,λa a' a'' p q=>by
   simp only[ltOf,decide_eq_false_iff_not] at p q ⊢;exact h3 _ a.2.1 _ a'.2.1 _ a''.2.1 p q⟩
 have hfl:(flatK enc 2 d.toArray).toList=c.toList.take (xs.length*2):=by
  rw[yY1 hk (by decide)];exact hd2
 have hH:HoldsK enc 2 X.w b 0 d.toArray:=by
  intro j hj;have hj':j<xs.length*2:=by rw[size_flatK] at hj;simpa[hdl] using hj
  have e1:(flatK enc 2 d.toArray)[j]?=c[j]?:=by
   rw[<- Array.getElem?_toList,hfl,List.getElem?_take,if_pos hj',Array.getElem?_toList]
  have hjc:j<c.size:=by omega
  rw[Array.getElem?_eq_getElem hj,Array.getElem?_eq_getElem hjc] at e1;refine⟨?_,?_⟩
  ·rw[Nat.zero_add,yQz hh,Array.getElem?_toList,Array.getElem?_eq_getElem hjc,<- e1,id,getElem!_pos _ j hj]
  ·simp only[World.frozen?,hh];simp
 have hmono:∀(n:Nat) (dk:Array α) (os:Array Obj) (X1:WS),X1.w=sortWorldK enc 2 X.w b 0 n dk os->X1.L=X.L->∀r x,V B X.L X.w r x->V B X1.L X1.w r x:=by
  intro n dk os X1 hw hXL r x hrx;refine V.mono hrx (λj=>by rw[hXL];exact Nat.le_refl _) (λj i hi=>?_) (λj p hp=>?_)
  ·have hjb:j≠b:=by rintro rfl;rw[hL] at hi;omega
   have hjl:j<X.w.heap.size:=by
    rcases Nat.lt_or_ge j X.w.heap.size with h|h
    ·exact h
    ·rw[hg.Lnew j h] at hi;omega
   exact yXn (by rw[hw];exact yXf hjb hjl) i
  ·by_cases hjb:j=b
   ·subst hjb;simp only[shq,hh] at hp;simp only[shq,hw,zQv hh];rw[<- hp];simp[putCells]
   ·rw[<- hp];exact yZr (by rw[hw];exact yXf hjb (yKg hp))
 have hcon:=AnyQ.slices_SortFunc Tryz.sortSL 2 xWo xK7 enc hk hone cf' hO g #[] b 0 cap d.toArray X.w hent (by
   intro n os dk hdk a a'
   let X1:WS:={ w:=sortWorldK enc 2 X.w b 0 n dk os,L:=X.L,st:=λ_=>none,d:=X.w.drawn+n }
   have hsz:=size_sortWorldK_c enc 2 X.w b 0 n dk os;have hg1:Go.Iv.Good ⟨prog,λ_=>none,B⟩ X1:=⟨λ_ _ h=>(by cases h),λ_ _ h=>(by cases h),Nat.le_trans hg.B hsz,λj hj=>hg.Lnew j (Nat.le_trans hsz hj),λ_ _ h=>(by cases h),λ_=>Nat.le_refl _⟩
   have hm1:=hmono n dk os X1 rfl rfl;have agg:∀a:α,V B X1.L X1.w (.agg (enc a).toArray) a.1.1:=λa=>by
    obtain⟨⟨x,vs⟩,hxm,hvx⟩:=a;obtain⟨cs,rfl⟩:∃cs,x=.agg cs:=by
     have:=hx x hxm;cases x<;>first|exact⟨_,rfl⟩|(simp[fits] at this)
    exact (show VL B X1.L X1.w vs cs from⟨hvx.1,λi r c hr hc=>hm1 r c (hvx.2 i r c hr hc)⟩).agg
   refine (hcmp a.1.1 a.2.1 a'.1.1 a'.2.1 B X1 [.agg (enc a).toArray,.agg (enc a').toArray] hg1 rfl (VL.cons (agg a) (VL.cons (agg a') VL.nil))).mono ?_;rintro e w' ⟨v,rfl,X',x,rfl,hg',he',hv',rfl⟩;obtain rfl:=V.raw_inv hv';refine⟨rfl,?_⟩;have hd:=hg'.dr (λ_=>rfl);rw[he'.d] at hd;exact zXy he' (λ_=>rfl) hd) hH hblk (by simp[hdl];omega)
 have harr:(⟨[.slice (some ⟨b,0,none⟩) xs.length cap,.func (.func g) ⟨[]⟩ ⟨[]⟩]⟩:Array Value)=#[.slice (some ⟨b,0,none⟩) d.toArray.size cap,.func (.func g) #[] #[]]:=by simp[hdl]
 rw[harr];refine hcon.mono ?_;rintro e w' ⟨rfl,d',n,os,hp,hs,rfl⟩;have hd'l:d'.size=xs.length:=by rw[hp.1];simp[hdl]
 have hperm:d'.toList.Perm d:=by
  have:=hp.2.2;rw[List.size_toArray,hdl,<- hd'l,Array.extract_size] at this
  rwa [hd'l,<- hdl,show d.toArray.extract 0 d.length=d.toArray by simp] at this
 have hys:∀y∈d'.toList.map (λa=>a.1.1),y∈xs:=λy hy=>by
  obtain⟨a,_,rfl⟩:=List.mem_map.1 hy;exact a.2.1
 have hblock:=zQv (enc:=enc) (k:=2) (m:=n) (dk:=d') (os:=os) hh;have hfs:(flatK enc 2 d').size=xs.length*2:=by rw[size_flatK,hd'l]
 have hpl:(putCells id 0 (flatK enc 2 d') c).toList=d'.toList.flatMap enc++c.toList.drop (xs.length*2):=by
  rw[yGj (by omega),yY1 hk (by decide),hfs]
 let X':WS:={ w:=sortWorldK enc 2 X.w b 0 n d' os,L:=X.L,st:=X.st.put b (some (.box ((d'.toList.map (λa=>a.1.1)).flatMap IV.cells++rest))),d:=X.d }
 have hm:=hmono n d' os X' rfl rfl;have hsz:=size_sortWorldK_c enc 2 X.w b 0 n d' os;have hvlm:∀rs cs,VL B X.L X.w rs cs->VL B X'.L X'.w rs cs:=λrs cs h=>⟨h.1,λi r x hr hx=>hm r x (h.2 i r x hr hx)⟩
 have hgood:Go.Iv.Good ⟨prog,gl,B⟩ X':=by
  refine⟨λj o ho=>?_,λj x hj=>hm _ _ (hg.gl j x hj),Nat.le_trans hg.B hsz,λj hj=>hg.Lnew j (Nat.le_trans hsz hj),λj x hj=>?_,λhd=>Nat.le_trans (hg.dr hd) (Nat.le_add_right _ _)⟩
  ·by_cases hjb:j=b
   ·subst hjb;simp only[X',ISt.put_same,Option.some.injEq] at ho;subst ho;refine⟨hL,_,T,hblock,hvlm _ _ ?_⟩;rw[hpl];refine VL.append ?_ ?_
    ·have key:∀l:List α,VL B X.L X.w (l.flatMap enc) ((l.map λa=>a.1.1).flatMap IV.cells):=λl=>by
      induction l with
      | nil=>exact VL.nil
      | cons a l ih=>simp only[List.flatMap_cons,List.map_cons];exact a.2.2.append ih
     exact key _
    ·have:=hvl.drop (xs.length*2)
     rwa [List.drop_left' (yQo xs hcells)] at this
   ·have ho':X.st j=some o:=by simpa only[X',ISt.put_apply,if_neg hjb] using ho
    exact (hg.ok j o ho').mono (yXf hjb (hg.lt ho')) rfl hvlm
  ·obtain⟨T',z,hT⟩:=hg.gsh j x hj;refine⟨T',z,?_⟩;by_cases hjb:j=b
   ·subst hjb;simp only[shq,hh] at hT;simp only[shq,X',hblock];rw[<- hT];simp[putCells]
   ·rw[<- hT];exact yZr (yXf hjb (yKg hT))
 refine⟨_,rfl,X',.tup [],rfl,hgood,⟨rfl,rfl,rfl,hsz,λ_=>Nat.le_refl _,λj i hi=>?_,λj hj hs0=>?_,λj hj hs0=>?_,λj p hp=>?_,rfl⟩,.tup [] [] rfl (λi r c h=>by simp at h),rfl,_,?_,?_,rfl⟩
 ·have hjb:j≠b:=by rintro rfl;rw[hL] at hi;omega
  have hjl:j<X.w.heap.size:=by
   rcases Nat.lt_or_ge j X.w.heap.size with h|h
   ·exact h
   ·rw[hg.Lnew j h] at hi;omega
  exact yXn (yXf hjb hjl) i
 ·have hjb:j≠b:=by rintro rfl;rw[hb] at hs0;cases hs0
  exact⟨yXf hjb hj,rfl⟩
 ·have hjb:j≠b:=by rintro rfl;rw[hb] at hs0;cases hs0
  simp only[X',ISt.put_apply,if_neg hjb];exact hs0
 ·by_cases hjb:j=b
  ·subst hjb;simp only[shq,hh] at hp;simp only[shq,X',hblock];rw[<- hp];simp[putCells]
  ·rw[<- hp];exact yZr (yXf hjb (yKg hp))
 ·have:=hperm.map (λa:α=>a.1.1)
  rwa [hd1] at this
 ·rw[List.pairwise_map];refine List.pairwise_iff_getElem.2 λi j hi hj hij=>?_;have:=hs i j (Nat.zero_le _) hij (by simp at hj ⊢;omega);simp only[ltOf,decide_eq_false_iff_not] at this;rw[Array.length_toList] at hi hj;rw[getElem!_pos d' i hi,getElem!_pos d' j hj] at this;exact this
end Go.Proofs.Tryz
namespace Go.Proofs.Tryz
open Go Go.Iv Go.Sort Go.Shelf Go.RowKit
set_option maxRecDepth 4000
variable (gl:Nat->Option IV)
def rdS:IV->ByteArray×Nat
 | .agg [.raw (.string s),.raw (.int _ n)]=>(s,n.toNat)
 | _=>(⟨#[]⟩,0)
noncomputable def yU2 (p q:ByteArray×Nat):Int:=lexI (cmpB p.1 q.1) (cmpN p.2 q.2)
def vJ0 (x:IV):Prop:=∃(s:ByteArray) (n:Nat),x=.agg [.raw (.string s),.raw (.int .i64 (n:Int))]
theorem wQy (s t:ByteArray)(n m:Nat)(st:ISt):ICall prog gl 141 [.agg [.raw (.string s),.raw (.int .i64 (n:Int))],.agg [.raw (.string t),.raw (.int .i64 (m:Int))]] st
  (λr st'=>r=.raw (.int .i64 (yU2 (s,n) (t,m)))/\st'=st):=by
 have h1:=λst=>zJ7 gl s t st;have h2:=λst=>zW3 gl n m st;refine iI func141 ?_;simp only[go_sem,zE,zA];refine (h1 _).mono ?_;rintro _ st ⟨rfl,rfl⟩;by_cases h0:cmpB s t=0
 ·simp only[go_sem,zE,zA,h0,decide_true,Bool.not_true];refine (h2 _).mono ?_;rintro _ st ⟨rfl,rfl⟩;simp only[go_sem];exact yQ0 ⟨by simp[yU2,lexI,h0],rfl⟩
 ·simp only[go_sem,zE,i1 _ h0];exact yQ0 ⟨by simp[yU2,lexI,h0],rfl⟩
theorem xVp (t:Tag)(ht:t.cap=.nil)(g:FuncId)(st:ISt):ICall prog gl 190 [.sl t [],.fn (.func g) [] []] st (λr st'=>r=.tup []/\st'=st):=by
 obtain⟨fs,c,es⟩:=t;obtain rfl:c=.nil:=ht;intro B X rs hg hst hv;obtain⟨r0,r1,rfl⟩:∃r0 r1,rs=[r0,r1]:=by
  match rs,hv with
  | [a,b],_=>exact⟨a,b,rfl⟩
  | [],hv=>cases hv.1
  | [_],hv=>cases hv.1
  | _::_::_::_,hv=>cases hv.1
 obtain⟨p,cap,rfl⟩:∃p cap,r0=.slice p 0 cap:=by
  have:=hv.2 0 r0 _ rfl rfl;obtain⟨a,cap,_,_,rfl,_⟩:=V.sl_inv this;exact⟨a,cap,rfl⟩
 refine Calls.mono (AnyF.slices_SortFunc_none Tryz.sortSL p cap r1 X.w) ?_;rintro e w' ⟨rfl,rfl⟩;exact⟨_,rfl,X,.tup [],rfl,hg,Ext.refl X,.tup [] [] rfl (λi r c h=>by simp at h),rfl,hst⟩
theorem zGl (p q:ByteArray×Nat):yU2 q p = - yU2 p q:=by
 unfold yU2;rw[(yXu p.1).neg q.1,(yWk p.2).neg q.2,yVk]
theorem wXs {p q:ByteArray×Nat}(h:yU2 p q=0):p=q:=by
 obtain⟨h1,h2⟩:=yK5.1 h;exact Prod.ext (((yXu p.1).eq q.1).1 h1) (((yWk p.2).eq q.2).1 h2)
theorem xUv (p:ByteArray×Nat):¬ yU2 p p<0:=by
 have:=zGl p p;omega
theorem xJl {p q r:ByteArray×Nat}(h:yU2 p q<0)(k:yU2 q r<0):yU2 p r<0 :=
 zKe ((yXu p.1).tr q.1 r.1) (λe=>by rw[((yXu p.1).eq q.1).1 e]) (λe=>by rw[((yXu q.1).eq r.1).1 e]) ((yWk p.2).tr q.2 r.2) h k
end Go.Proofs.Tryz
namespace Go.Proofs.Tryz
open Go Go.Iv Go.Sort Go.Shelf Go.RowKit
set_option maxRecDepth 4000
variable (gl:Nat->Option IV)
theorem xVv (g:FuncId)(caps:List IV)(ents:Array MapEntry)(hE:∀e∈ents.toList,∃s n,keyI e.key=some (.agg [.raw (.string s),.raw (.int .i64 n)]))(hlen:ents.toList.length<=1000000000)(st:ISt)(he:entI prog g=true)(Base:ISt->Prop)(hB:Base st)
  (hi:xZh prog gl g [] caps (yUl (symH ents)) [] (finH ents) (λ_=>Base) noUp) :
  ICall prog gl 189 [.fn (.func g) [] caps] st (λr st'=>(∃h,finH ents h/\wJ3 st h r st')/\subSt st st'):=by
 have hA:=λf es=>zU2 gl g caps ents hE hlen st he Base hB hi f es;refine iI func189 ?_;simp only[go_sem,zE,zB,zA,zM,zS,zL,reduceCtorEq,fits];refine (hA _ _).mono ?_;rintro r st' h;have hci:ivOf (.iv r)=some r:=by
  obtain⟨⟨_,_,xs,_,⟨_,f,e,rfl⟩|⟨g,cap,cs,_,_,rfl,_⟩⟩,_⟩:=h<;>rfl
 simp only[go_sem,zE,zB,zA,zM,zS,zL,reduceCtorEq,fits,hci];exact yQ0 h
theorem wQk (g:FuncId)(caps:List IV)(ents:Array MapEntry)(hE:∀e∈ents.toList,∃s n,keyI e.key=some (.agg [.raw (.string s),.raw (.int .i64 n)]))(hN:∀e∈ents.toList,∀x,keyI e.key=some x->vJ0 x)(hlen:ents.toList.length<=1000000000)(st:ISt)(he:entI prog g=true)(Base:ISt->Prop)(hB:Base st)
  (hi:xZh prog gl g [] caps (yUl (symH ents)) [] (finH ents) (λ_=>Base) noUp) :
  ICall prog gl 139 [.fn (.func g) [] caps,.fn (.func 141) [] []] st (λr st'=>(∃h,finH ents h/\wJ3 st h r st')/\subSt st st'):=by
 have hA:=xVv gl g caps ents hE hlen st he Base hB hi;refine iI func139 ?_;simp only[go_sem,zE,zB,zA,zM,zS,zL,reduceCtorEq,fits];refine hA.mono ?_;rintro r st1 ⟨⟨hs,hfin,xs,hxl,h⟩,hsub⟩;rcases h with⟨h0,f,e,rfl⟩|⟨b,cap,cs,h0,hbn,rfl,hb,hkc,hcc,htk⟩
 ·simp only[go_sem,zE,zB,zA,zM,zS,zL,reduceCtorEq,fits];refine (xVp gl _ rfl _ _).mono ?_;rintro _ st1 ⟨rfl,rfl⟩;simp only[go_sem,zE,zB,zA,zM,zS,zL,reduceCtorEq,fits];exact yQ0 ⟨⟨hs,hfin,xs,hxl,.inl ⟨h0,f,e,rfl⟩⟩,hsub⟩
 ·have hg:∀x∈xs,vJ0 x:=λx hx=>by
   obtain⟨e,he,rfl⟩:=List.mem_map.1 (hxl.mem_iff.1 hx);have hem:=hfin.2.2 e he;obtain⟨s,n,hk⟩:=hE e hem;exact hN e hem _ (by unfold keyD;rw[hk];rfl)
  have hcs:cs=xs.flatMap IV.cells++cs.drop (hs.length*2):=by rw[<- htk,List.take_append_drop]
  have hS:=xZf gl 141 (enters_of func141 (by kernel_rfl) rfl) xs (cs.drop (hs.length*2)) b cap st1 (λh=>by subst h;exact h0 (by simpa using hxl.length_eq.symm)) (by have:=hxl.length_eq;rw[List.length_map,hfin.1] at this;omega) (λx hx=>by
    obtain⟨s,n,rfl⟩:=hg x hx;rfl) (by rw[<- hcs];exact hb) (λx y=>yU2 (rdS x) (rdS y)) (λx _=>xUv _) (λx _ y _ z _=>xJl) (λx _ y _ z _ h1 h2 h3=>by
    rcases Int.lt_or_le (yU2 (rdS y) (rdS x)) 0 with h|h
    ·exact h2 (xJl h h3)
    ·have hxy:yU2 (rdS x) (rdS y)=0:=by
      have:=zGl (rdS x) (rdS y);omega
     rw[wXs hxy] at h3;exact h2 h3) (λx hxm y hym=>by
    obtain⟨s,n,rfl⟩:=hg x hxm;obtain⟨t,m,rfl⟩:=hg y hym;exact (wQy (λ_=>none) s t n m _).mono λr st' h=>h.1)
  rw[show xs.length=hs.length by rw[hxl.length_eq,List.length_map]] at hS;simp only[go_sem,zE,zB,zA,zM,zS,zL,reduceCtorEq,fits];refine hS.mono ?_;rintro _ _ ⟨rfl,ys,hp,_,rfl⟩;simp only[go_sem,zE,zB,zA,zM,zS,zL,reduceCtorEq,fits];refine yQ0 ⟨⟨hs,hfin,ys,hp.trans hxl,.inr ⟨b,cap,_,h0,hbn,rfl,ISt.put_same ..,hkc,?_,?_⟩⟩,λc o hc=>?_⟩
  ·have hl:=congrArg List.length hcs;rw[lLa] at hl;rw[lLa,(hp.flatMap_right IV.cells).length_eq];omega
  ·rw[List.take_left'];rw[(hp.flatMap_right IV.cells).length_eq];have:=congrArg List.length htk;rw[List.length_take] at this;omega
  ·rw[yQ6 (by rintro rfl;rw[hbn] at hc;cases hc)];exact hsub _ _ hc
end Go.Proofs.Tryz
namespace Go.Proofs.Tryz
open Go Go.Iv
set_option maxRecDepth 4000
variable (gl:Nat->Option IV)
theorem xZp {key:Value}{y:IV}{p:Value×IV}:∀ {es:List (Value×IV)},p∈updI key y es->p.1=key\/p∈es
 | [],h=>by
  simp only[updI,List.mem_singleton] at h;subst h;exact .inl rfl
 | (k,x)::es,h=>by
  unfold updI at h;split at h
  ·rcases List.mem_cons.1 h with rfl|h
   ·exact .inl rfl
   ·exact .inr (List.mem_cons_of_mem _ h)
  ·rcases List.mem_cons.1 h with rfl|h
   ·exact .inr (List.mem_cons_self ..)
   ·exact (xZp h).imp id λh=>List.mem_cons_of_mem _ h
theorem xZq {key:Value}{y:IV}:∀ {es:List (Value×IV)},(updI key y es).length<=es.length+1
 | []=>by simp[updI]
 | (k,x)::es=>by
  have:=xZq (key:=key) (y:=y) (es:=es);unfold updI;split<;>simp<;>omega
def symIn (l:List Fm)(s:ByteArray)(n:Nat):Prop:=∃us sub,Fm.mk 1 s us sub∈l/\us.length=n
structure SymMapX (l:List Fm)(es:List (Value×IV)):Prop where
 len:es.length<=l.length
 key:∀p∈es,∃(s:ByteArray) (n:Nat),p.1=.agg #[.string s,.int .i64 (n:Int)]/\s.size<=1000000000/\symIn l s n
 cov:∀s n,symIn l s n->∃p∈es,p.1=.agg #[.string s,.int .i64 (n:Int)]
structure SymsX (l:List Fm)(ys:List IV):Prop where
 len:ys.length<=l.length
 key:∀y∈ys,∃(s:ByteArray) (n:Nat),y=.agg [.raw (.string s),.raw (.int .i64 (n:Int))]/\s.size<=1000000000/\symIn l s n
 cov:∀s n,symIn l s n->(.agg [.raw (.string s),.raw (.int .i64 (n:Int))]:IV)∈ys
theorem symIn.app {l m:List Fm}{s:ByteArray}{n:Nat}(h:symIn l s n):symIn (l++m) s n:=by
 obtain⟨us,sub,h1,h2⟩:=h;exact⟨us,sub,List.mem_append_left _ h1,h2⟩
def symV (s:ByteArray)(n:Nat):Value:=.agg #[.string s,.int .i64 (n:Int)]
theorem xZr {s:ByteArray}{n:Nat}{y:IV}:∀ {es:List (Value×IV)},(∀p∈es,∃s n,p.1=symV s n)->(∃p∈updI (symV s n) y es,p.1=symV s n)/\∀q∈es,∃p∈updI (symV s n) y es,p.1=q.1
 | [],_=>⟨⟨_,by simp only[updI];exact List.mem_singleton.2 rfl,rfl⟩,nofun⟩
 | (k,x)::es,h=>by
  have ih:=xZr (s:=s) (n:=n) (y:=y) (es:=es) λp hp=>h p (List.mem_cons_of_mem _ hp);obtain⟨s',n',hk'⟩:=h _ (List.mem_cons_self ..);simp only at hk';unfold updI;split
  ·rename_i hk;have hk:symV s n=k:=by
    rw[hk'] at hk ⊢;simp[yKc,xWe,symV] at hk;obtain⟨h1,h2⟩:=hk;subst h1;have h3:n=n':=by omega
    rw[h3]
   exact⟨⟨_,List.mem_cons_self ..,rfl⟩,λq hq=>by
    rcases List.mem_cons.1 hq with rfl|hq
    ·exact⟨_,List.mem_cons_self ..,hk⟩
    ·exact⟨q,List.mem_cons_of_mem _ hq,rfl⟩⟩
  ·obtain⟨⟨p,h1,h2⟩,h3⟩:=ih;exact⟨⟨p,List.mem_cons_of_mem _ h1,h2⟩,λq hq=>by
    rcases List.mem_cons.1 hq with rfl|hq
    ·exact⟨_,List.mem_cons_self ..,rfl⟩
    ·obtain⟨p,h4,h5⟩:=h3 q hq;exact⟨p,List.mem_cons_of_mem _ h4,h5⟩⟩
theorem SymMapX.upd {l:List Fm}{es:List (Value×IV)}(h:SymMapX l es){s:ByteArray}{us:List Tm}{sub:List Fm}(hs:s.size<=1000000000)(y:IV):SymMapX (l++[.mk 1 s us sub]) (updI (.agg #[.string s,.int .i64 (us.length:Int)]) y es) :=
 ⟨by have:=xZq (key:=.agg #[.string s,.int .i64 (us.length:Int)]) (y:=y) (es:=es);have:=h.len;rw[lLa,List.length_singleton];omega,λp hp=>by
  rcases xZp hp with h1|h1
  ·exact⟨s,us.length,h1,hs,us,sub,by simp,rfl⟩
  ·obtain⟨s',n,h2,h3,h4⟩:=h.key p h1;exact⟨s',n,h2,h3,h4.app⟩,λs' n hn=>by
  obtain⟨us',sub',h1,h2⟩:=hn;have hk:=xZr (s:=s) (n:=us.length) (y:=y) (es:=es) λp hp=>by obtain⟨s,n,h,_⟩:=h.key p hp;exact⟨s,n,h⟩
  rcases List.mem_append.1 h1 with h1|h1
  ·obtain⟨q,hq,hq1⟩:=h.cov s' n ⟨us',sub',h1,h2⟩;obtain⟨p,hp,hp1⟩:=hk.2 q hq;exact⟨p,hp,hp1.trans hq1⟩
  ·simp only[List.mem_singleton,Fm.mk.injEq,true_and] at h1;obtain⟨rfl,rfl,rfl⟩:=h1;rw[<- h2];exact hk.1⟩
theorem SymMapX.skip {l:List Fm}{es:List (Value×IV)}(h:SymMapX l es){o:Nat}{s:ByteArray}{us:List Tm}{sub:List Fm}(ho:¬ o=1):SymMapX (l++[.mk o s us sub]) es :=
 ⟨by have:=h.len;rw[lLa];omega,λp hp=>by
  obtain⟨s',n,h2,h3,h4⟩:=h.key p hp;exact⟨s',n,h2,h3,h4.app⟩,λs' n hn=>by
  obtain⟨us',sub',h1,h2⟩:=hn;rcases List.mem_append.1 h1 with h1|h1
  ·exact h.cov s' n ⟨us',sub',h1,h2⟩
  ·simp only[List.mem_singleton,Fm.mk.injEq] at h1;exact (ho h1.1.symm).elim⟩
theorem xWn (l:List Fm)(hK:l.length<=1000000000)(m:Nat)(es:List (Value×IV))(hes:SymMapX l es)(st:ISt)(hm:st m=some (.map .sym es)) :
  ICall prog gl 114 [.raw (.map (some m))] st (λr st'=>∃t ys o,r=.sl t ys/\okEs t 2/\SymsX l ys/\st'=st.put m o):=by
 refine ICall.mapx hm λents clock ⟨g1,g2,g3,g4,_⟩=>?_;have hN:ents.toList.length=es.length:=by have:=congrArg List.length g1;simpa using this
 have hkey:∀e∈ents.toList,∃(s:ByteArray) (n:Nat),keyI e.key=some (.agg [.raw (.string s),.raw (.int .i64 (n:Int))])/\s.size<=1000000000/\symIn l s n/\e.key=.agg #[.string s,.int .i64 (n:Int)]:=λe he=>by
  have h1:e.key∈es.map (·.1):=g1▸List.mem_map_of_mem he;obtain⟨p,hp,hq⟩:=List.mem_map.1 h1;obtain⟨s,n,h2,h3,h4⟩:=hes.2 p hp;refine⟨s,n,?_,h3,h4,by rw[<- hq,h2]⟩;rw[<- hq,h2];simp[keyI,show s.size<=281474976710656 by omega]
 have hE:EntOk ents clock:=⟨λe he=>by obtain⟨s,n,h,_⟩:=hkey e he;exact⟨s,n,h⟩,g3,by
  have hp:(ents.toList.map (·.born)).Pairwise (·<·):=List.pairwise_map.2 g4;exact hp.imp λh=>Nat.ne_of_lt h⟩
 have hsyms:∀(h:List MapEntry) (xs:List IV),finH ents h->xs.Perm (h.map keyD)->SymsX l xs:=λh xs h1 h2=>⟨by rw[h2.length_eq,List.length_map,h1.1,hN];exact hes.1,λy hy=>by
  obtain⟨e,he,rfl⟩:=List.mem_map.1 (h2.mem_iff.1 hy);obtain⟨s,n,h3,h5,h4,_⟩:=hkey e (h1.2.2 e he);exact⟨s,n,by unfold keyD;rw[h3];rfl,h5,h4⟩,λs n hs=>by
  obtain⟨p,hp,hp1⟩:=hes.3 s n hs;have hm:p.1∈ents.toList.map (·.key):=g1▸List.mem_map_of_mem hp;obtain⟨e,he,hk⟩:=List.mem_map.1 hm;obtain⟨s',n',h3,_,_,h4⟩:=hkey e he;rw[hk,hp1] at h4;simp only[Value.agg.injEq] at h4;have h4':=congrArg Array.toList h4;simp at h4';refine h2.mem_iff.2 (List.mem_map.2 ⟨e,h1.2.1 e he,?_⟩);unfold keyD;rw[h3,<- h4'.1,<- h4'.2];rfl⟩
 refine ICall.fix1 ?_;generalize hS:st.put m (some (.mapx ents clock))=S;have hSm:S m=some (.mapx ents clock):=by rw[<- hS];exact ISt.put_same ..
 have hKk:=λst=>wYg gl m st;have hSo:=λb st hB=>wQk gl 191 [.raw (.pointer (some ⟨b,0,none⟩))] ents hE.key (λe he x hx=>by
  obtain⟨s,n,h3,h4,_⟩:=hkey e he;rw[h3] at hx;exact⟨s,n,(Option.some.inj hx).symm⟩) (by rw[hN];have:=hes.1;omega) st (by simp only[go_sem]) (λst=>st b=some (.box [.raw (.map (some m))])/\st m=some (.mapx ents clock)) hB (wJ4 gl m b clock ents hE)
 refine iI func114 ?_;simp only[go_sem,zE,zB,zA,zM,zS,zL,reduceCtorEq,fits];refine (hKk _).mono ?_;rintro _ _ ⟨b,hb,rfl,rfl⟩;simp only[go_sem,zE,zB,zA,zM,zS,zL,reduceCtorEq,fits,wK0];refine (hSo b _ ⟨ISt.put_same ..,by rw[yQ6 (yKl hSm hb)];exact hSm⟩).mono ?_;rintro r st' ⟨⟨hs,hfin,xs,hxl,h⟩,hsub⟩;have hsub2:=(yQp (o:=some (.box [.raw (.map (some m))])) hb).trans hsub;rcases h with⟨h0,f,e,rfl⟩|⟨g,cap,cs,h0,hgn,rfl,hg,hkc,hcc,htk⟩
 ·simp only[go_sem,zE,zB,zA,zM,zS,zL,reduceCtorEq,fits];refine yQs hsub2 (.inl ⟨_,[],some (.mapx ents clock),rfl,.inl rfl,hsyms hs _ hfin (by rw[h0];exact .nil),hS.symm⟩)
 ·have hgb:g≠b:=by rintro rfl;rw[ISt.put_same] at hgn;cases hgn
  rw[yQ6 hgb] at hgn;simp only[go_sem,zE,zB,zA,zM,zS,zL,reduceCtorEq,fits];refine yQs (st':=S.put g (some (.box cs))) (λc o hc=>?_) (.inr ⟨g,_,cap,cs,2,xs,hgn,rfl,rfl,by rw[hxl.length_eq,List.length_map],by rw[hfin.1,hN];have:=hes.1;omega,hkc,hcc,htk,λz hz=>?_,_,xs,some (.mapx ents clock),rfl,.inr rfl,hsyms hs xs hfin hxl,hS.symm⟩)
  ·rw[ISt.put_apply] at hc;split at hc
   ·rename_i hcg;rw[hcg,hg];exact hc
   ·exact hsub2 _ _ hc
  ·obtain⟨_,h9,_⟩:=hsyms hs xs hfin hxl;obtain⟨s,n,rfl,_⟩:=h9 z hz;rfl
theorem zGz (f:Fm)(x:IV)(hx:IsFm f x)(hl:(yZg f).length<=1000000000)(hp:∀o n us sub,Fm.mk o n us sub∈yZg f->n.size<=1000000000/\us.length<=1000000)(st:ISt) :
  ICall prog gl 84 [x] st (λr st'=>∃t ys,r=.sl t ys/\okEs t 2/\SymsX (yZg f) ys/\st'=st):=by
 have hw:=λst=>wJb gl x st f hx;have hw1:=λI=>xW0 gl f x hx I;have hSo:=λm es hes st hm=>xWn gl (yZg f) hl m es hes st hm;obtain⟨o1,n1,t1,x1,t2,x2,rfl⟩:=hx.agg;refine ICall.intro (c:=cf prog gl [3] []) func84 rfl (by show _<=21;simp) (by kernel_rfl) ?_;simp only[go_sem,zE,zB,zA,zM,zS,zL,reduceCtorEq,fits];refine λm=>yQ9 λhm=>λb=>yQ9 λhb=>?_;have hbm:b≠m:=by rintro rfl;rw[ISt.put_same] at hb;cases hb
 rw[yQ6 hbm] at hb;refine (hw _).mono ?_;rintro _ _ ⟨rfl,rfl⟩;simp only[go_sem,zE,zB,zA,zM,zS,zL,reduceCtorEq,fits];refine RangeC.intro (wZo f) (yZg f).length (λk st'=>∃es,SymMapX ((yZg f).take k) es/\st'=(st.put m (some (.map .sym es))).put b (some (.box [.raw (.map (some m))]))) (λ_ _=>False) (by simp only[go_sem]) ?_ ?_ ?_ (hw1 _) ?_ (λ_ _ _ h=>h.elim)
 ·rintro k a ⟨_,_,_,_,rfl⟩;rfl
 ·exact⟨[],⟨Nat.zero_le _,nofun,λs n h=>by obtain⟨us,sub,h,_⟩:=h;simp at h⟩,yQ8 ..⟩
 ·rintro k a _ ⟨z,x,hz,hzx,rfl⟩ ⟨es,hes,rfl⟩;obtain⟨o,nm,us,sub⟩:=z;have hpz:=hp o nm us sub (lMg hz);obtain⟨tg,xs,tg',ys,rfl,hop,htg,hxs,htg',hys⟩:=hzx.mk;have hmm:((st.put m (some (.map .sym es))).put b (some (.box [.raw (.map (some m))]))) m=some (.map .sym es):=by rw[yQ6 (λh=>hbm h.symm),ISt.put_same]
  by_cases h1:o=1
  ·subst h1;simp only[go_sem,zE,zB,zA,zM,zS,zL,reduceCtorEq,fits,ISt.put_same,hmm,hxs.len,decide_true,show decide (((1:Nat):Int)=1)=true from rfl];intro hl;refine yQ9 λhs=>?_;unfold chk;refine⟨by rw[dEt hs,dEt (show (-9223372036854775808:Int)<=us.length by omega),dEt (show ((us.length:Nat):Int)<=9223372036854775807 by omega)];rfl,_,by rw[yQ7 hz];exact hes.upd hpz.1 (.raw (.bool true)),?_⟩;funext c;simp only[ISt.put_apply];by_cases h1:c=m
   ·rw[if_pos h1,if_neg (λh=>hbm (by rw[<- h,h1])),if_pos h1]
   ·rw[if_neg h1,if_neg h1,if_neg h1]
  ·simp only[go_sem,zE,zB,zA,zM,zS,zL,reduceCtorEq,fits,ISt.put_same,hmm,show decide (((o:Nat):Int)=1)=false from dEf (by omega)];exact⟨es,by rw[yQ7 hz];exact hes.skip h1,rfl⟩
 ·rintro _ r ⟨es,hes,rfl⟩;rw[lTl] at hes;have hmm:((st.put m (some (.map .sym es))).put b (some (.box [.raw (.map (some m))]))) m=some (.map .sym es):=by rw[yQ6 (λh=>hbm h.symm),ISt.put_same]
  simp only[go_sem,zE,zB,zA,zM,zS,zL,reduceCtorEq,ISt.put_same,fits];refine (hSo m es hes _ hmm).mono ?_;rintro _ _ ⟨t,ys,o,rfl,ht,hys,rfl⟩;simp only[go_sem,zE,zB,zA,zM,zS,zL,reduceCtorEq,fits];refine yQs (st':=st) (λc o' hc=>?_) ⟨t,ys,rfl,ht,hys,rfl⟩;rw[yQ6 (by rintro rfl;rw[hm] at hc;cases hc),yQ6 (by rintro rfl;rw[hb] at hc;cases hc),yQ6 (by rintro rfl;rw[hm] at hc;cases hc)];exact hc
mutual
def wTm:Tm->Nat
 | .mk _ n us=>1+n.size / 20+wTms us
def wTms:List Tm->Nat
 | []=>0
 | a::l=>wTm a+wTms l
end
mutual
def wFm:Fm->Nat
 | .mk _ n us sub=>1+n.size / 20+wTms us+wFms sub
def wFms:List Fm->Nat
 | []=>0
 | a::l=>wFm a+wFms l
end
theorem yYr:∀l m:List Tm,wTms (l++m)=wTms l+wTms m
 | [],m=>by simp[wTms]
 | a::l,m=>by simp only[List.cons_append,wTms,yYr l m];omega
theorem xW2 {l:List Tm}{k:Nat}{a:Tm}(h:l[k]?=some a):wTms (l.take (k+1))=wTms (l.take k)+wTm a:=by
 rw[yQ7 h,yYr];simp[wTms]
theorem xW3 (l:List Tm)(k:Nat):wTms (l.take k)<=wTms l:=by
 conv=>rhs;rw[<- List.take_append_drop k l]
 rw[yYr];omega
theorem yVd:∀l m:List Fm,wFms (l++m)=wFms l+wFms m
 | [],m=>by simp[wFms]
 | a::l,m=>by simp only[List.cons_append,wFms,yVd l m];omega
theorem xW4 {l:List Fm}{k:Nat}{a:Fm}(h:l[k]?=some a):wFms (l.take (k+1))=wFms (l.take k)+wFm a:=by
 rw[yQ7 h,yVd];simp[wFms]
theorem xW5 (l:List Fm)(k:Nat):wFms (l.take k)<=wFms l:=by
 conv=>rhs;rw[<- List.take_append_drop k l]
 rw[yVd];omega
def Sum (w:Nat)(lim:Int)(r:IV):Prop:=∃n:Nat,r=.raw (.int .i64 n)/\n<=w/\((n:Int)<=lim->n=w)
def tC (us:List Tm):Prop:=∀(t:Tag) (xs:List IV) (_:okEs t 3) (_:IsTms us xs) (lim:Int) (_:-1<=lim/\lim<=1000) (_:wTms us<=1099511627776) (st:ISt),
 ICall prog gl 66 [.sl t xs,.raw (.int .i64 lim)] st (λr st'=>Sum (wTms us) lim r/\st'=st)
theorem xQ0 (us:List Tm)(IH:∀v n l,Tm.mk v n l∈us->tC gl l):tC gl us:=by
 intro t xs ht hx lim hlim hw st;refine iI func66 ?_;simp only[go_sem];refine LoopC.ctr us.length (λk fr st' ds=>(∃n:Nat,fr 5=.iv (.raw (.int .i64 n))/\n<=wTms (us.take k)/\((n:Int)<=lim->n=wTms (us.take k)))/\fr 0=.iv (.sl t xs)/\fr 1=.iv (.raw (.int .i64 lim))/\fr 6=.iv (.raw (.int .i64 k))/\st'=st/\ds=[]) ?_ ?_ ?_
 ·simp only[go_sem,zE,reduceCtorEq];exact⟨⟨0,rfl,Nat.le_refl _,λ_=>rfl⟩,rfl⟩
 ·rintro k fr st1 _ hlt ⟨⟨n,f5,hn1,hn2⟩,f0,f1,f6,rfl,rfl⟩;obtain⟨a,ha⟩:=yQ2 hlt;obtain⟨x,hkx,hxa⟩:=hx.get ha;obtain⟨v2,n2,l2⟩:=a;obtain⟨tx,cx,rfl,htx,hcx⟩:=hxa.mk;have hwt:=xW2 ha;have hwl:=xW3 us (k+1);have hwk:=xW3 us k;simp only[wTm] at hwt;by_cases hle:(n:Int)<=lim
  ·have hnk:=hn2 hle;have hcall:=λst=>IH _ _ _ (lMg ha) tx cx htx hcx (lim-n-1) ⟨by omega,by omega⟩ (by omega) st;have hq:IntKind.i64.wrap (((n2.size:Nat):Int).tdiv 20)=((n2.size / 20:Nat):Int):=by
    have:((n2.size:Nat):Int).tdiv 20=((n2.size / 20:Nat):Int):=rfl;rw[this,w64 (by omega) (by omega)]
   have hz:¬ ((20:Int)=0):=by decide
   generalize n2.size / 20=q at hq hwt;have w1:IntKind.i64.wrap (1+((q:Nat):Int))=((1+q:Nat):Int):=by rw[w64]<;>omega
   have w2:IntKind.i64.wrap (IntKind.i64.wrap (lim-(n:Int))-1)=lim-n-1:=by rw[w64 (n:=lim-n) (by omega) (by omega),w64 (by omega) (by omega)]
   simp only[go_sem,zE,zA,reduceCtorEq,f0,f1,f5,f6,hx.len,lt_i hlt,dEt hle,yQ3 ht,iNn,hkx,fits,hq,hz,w1,w2];intro _;refine (hcall _).mono ?_;rintro _ st2 ⟨⟨m,rfl,hm1,hm2⟩,rfl⟩;have w3:IntKind.i64.wrap (((1+q:Nat):Int)+(m:Int))=((1+q+m:Nat):Int):=by rw[w64]<;>omega
   have w4:IntKind.i64.wrap ((n:Int)+((1+q+m:Nat):Int))=((n+(1+q+m):Nat):Int):=by rw[w64]<;>omega
   simp only[go_sem,zE,reduceCtorEq,f0,f1,f6,w3,w4,yQd hlt (show us.length<=281474976710656 by omega)];exact⟨n+(1+q+m),rfl,by omega,λh=>by have:=hm2 (by omega);omega⟩
  ·simp only[go_sem,zE,reduceCtorEq,f0,f1,f5,f6,hx.len,lt_i hlt,dEf hle];intro _;exact yQ0 ⟨⟨n,rfl,by omega,λh=>absurd h hle⟩,rfl⟩
 ·rintro fr st1 _ ⟨⟨n,f5,hn1,hn2⟩,f0,f1,f6,rfl,rfl⟩;rw[lTl] at hn1 hn2;simp only[go_sem,zE,reduceCtorEq,f0,f5,f6,hx.len,yQm (nLi _)];intro _;exact yQ0 ⟨⟨n,rfl,hn1,hn2⟩,rfl⟩
theorem zK1:∀(k:Nat)(us:List Tm),SizeOf.sizeOf us<k->tC gl us
 | 0,f,h=>by omega
 | k+1,us,h=>xQ0 gl us (λv n l ha=>zK1 k l (by
   have:=lSm ha;simp at this;omega))
theorem wZh (us:List Tm):tC gl us:=zK1 gl _ us (Nat.lt_succ_self _)
def zC (us:List Fm):Prop:=∀(t:Tag) (xs:List IV) (_:okEs t 4) (_:IsFms us xs) (lim:Int) (_:-1<=lim/\lim<=1000) (_:wFms us<=1099511627776) (st:ISt),
 ICall prog gl 35 [.sl t xs,.raw (.int .i64 lim)] st (λr st'=>Sum (wFms us) lim r/\st'=st)
theorem xKg (us:List Fm)(IH:∀o n l m,Fm.mk o n l m∈us->zC gl m):zC gl us:=by
 intro t xs ht hx lim hlim hw st;refine ICall.intro (c:=cf prog gl [] [(5,[0,1,2,3,4,5,6,7,8,9,10,11,12,13,14,15,16,19,20,21,22,23,24,25,26,27,17,18,28,29,30,31])]) func35 rfl (by show _<=50;simp) (by kernel_rfl) ?_;simp only[go_sem];refine LoopC.ctr us.length (λk fr st' ds=>(∃n:Nat,fr 5=.iv (.raw (.int .i64 n))/\n<=wFms (us.take k)/\((n:Int)<=lim->n=wFms (us.take k)))/\fr 0=.iv (.sl t xs)/\fr 1=.iv (.raw (.int .i64 lim))/\fr 6=.iv (.raw (.int .i64 k))/\st'=st/\ds=[]) ?_ ?_ ?_
 ·simp only[go_sem,zE,reduceCtorEq];exact⟨⟨0,rfl,Nat.le_refl _,λ_=>rfl⟩,rfl⟩
 ·rintro k fr st1 _ hlt ⟨⟨n,f5,hn1,hn2⟩,f0,f1,f6,rfl,rfl⟩;obtain⟨a,ha⟩:=yQ2 hlt;obtain⟨x,hkx,hxa⟩:=hx.get ha;obtain⟨o2,n2,l2,m2⟩:=a;obtain⟨tx,cx,ty,cy,rfl,_,htx,hcx,hty,hcy⟩:=hxa.mk;have hwt:=xW4 ha;have hwl:=xW5 us (k+1);have hwk:=xW5 us k;simp only[wFm] at hwt;by_cases hle:(n:Int)<=lim
  ·have hnk:=hn2 hle;have hcall:=λst=>IH _ _ _ _ (lMg ha) ty cy hty hcy (lim-n-1) ⟨by omega,by omega⟩ (by omega) st;have hterm:=λst=>wZh gl l2 tx cx htx hcx (lim-n) ⟨by omega,by omega⟩ (by omega) st;have hq:IntKind.i64.wrap (((n2.size:Nat):Int).tdiv 20)=((n2.size / 20:Nat):Int):=by
    have:((n2.size:Nat):Int).tdiv 20=((n2.size / 20:Nat):Int):=rfl;rw[this,w64 (by omega) (by omega)]
   have hz:¬ ((20:Int)=0):=by decide
   generalize n2.size / 20=q at hq hwt;have w1:IntKind.i64.wrap (1+((q:Nat):Int))=((1+q:Nat):Int):=by rw[w64]<;>omega
   have w0:IntKind.i64.wrap (lim-(n:Int))=lim-n:=w64 (by omega) (by omega);have w2:IntKind.i64.wrap (lim-(n:Int)-1)=lim-n-1:=w64 (by omega) (by omega);simp only[go_sem,zE,zA,reduceCtorEq,f0,f1,f5,f6,hx.len,lt_i hlt,dEt hle,yQ3 ht,iNn,hkx,fits,hq,hz,w1,w0,w2];intro _;refine (hterm _).mono ?_;rintro _ st2 ⟨⟨m1,rfl,hm1,hm1'⟩,rfl⟩;have w3:IntKind.i64.wrap (((1+q:Nat):Int)+(m1:Int))=((1+q+m1:Nat):Int):=by rw[w64]<;>omega
   simp only[go_sem,zE,zA,w3];refine (hcall _).mono ?_;rintro _ st2 ⟨⟨m,rfl,hm,hm'⟩,rfl⟩;have w4:IntKind.i64.wrap (((1+q+m1:Nat):Int)+(m:Int))=((1+q+m1+m:Nat):Int):=by rw[w64]<;>omega
   have w5:IntKind.i64.wrap ((n:Int)+((1+q+m1+m:Nat):Int))=((n+(1+q+m1+m):Nat):Int):=by rw[w64]<;>omega
   simp only[go_sem,zE,reduceCtorEq,f0,f1,f6,w4,w5,yQd hlt (show us.length<=281474976710656 by omega)];exact⟨n+(1+q+m1+m),rfl,by omega,λh=>by have:=hm1' (by omega);have:=hm' (by omega);omega⟩
  ·simp only[go_sem,zE,reduceCtorEq,f0,f1,f5,f6,hx.len,lt_i hlt,dEf hle];intro _;exact yQ0 ⟨⟨n,rfl,by omega,λh=>absurd h hle⟩,rfl⟩
 ·rintro fr st1 _ ⟨⟨n,f5,hn1,hn2⟩,f0,f1,f6,rfl,rfl⟩;rw[lTl] at hn1 hn2;simp only[go_sem,zE,reduceCtorEq,f0,f5,f6,hx.len,yQm (nLi _)];intro _;exact yQ0 ⟨⟨n,rfl,hn1,hn2⟩,rfl⟩
theorem zYg:∀(k:Nat)(us:List Fm),SizeOf.sizeOf us<k->zC gl us
 | 0,f,h=>by omega
 | k+1,us,h=>xKg gl us (λo n l m ha=>zYg k m (by
   have:=lSm ha;simp at this;omega))
theorem xY9 (us:List Fm):zC gl us:=zYg gl _ us (Nat.lt_succ_self _)
theorem uKw (s:Sq)(x:IV)(hx:IsSq s x)(hw:wFms s.l<=1099511627776/\wFms s.r<=1099511627776)(st:ISt):ICall prog gl 11 [x] st (λr st'=>(r=.raw (.bool (decide (wFms s.l+wFms s.r<=300))))/\st'=st):=by
 obtain⟨t1,x1,t2,x2,rfl,e1,i1,e2,i2⟩:=hx;have h1:=λst=>xY9 gl s.l t1 x1 e1 i1 300 ⟨by omega,by omega⟩ hw.1 st;have h2:=λst=>xY9 gl s.r t2 x2 e2 i2 300 ⟨by omega,by omega⟩ hw.2 st;refine ICall.intro (c:=cf prog gl [] [(1,[0,1,3,4,2,5,6,7,8])]) func11 rfl (by show _<=11;simp) (by kernel_rfl) ?_;simp only[go_sem,zE,zA];refine (h1 _).mono ?_;rintro _ st2 ⟨⟨n,rfl,hn1,hn2⟩,rfl⟩;simp only[go_sem,zE,zA];refine (h2 _).mono ?_;rintro _ st2 ⟨⟨m,rfl,hm1,hm2⟩,rfl⟩;have w:IntKind.i64.wrap ((n:Int)+(m:Int))=((n+m:Nat):Int):=by rw[w64]<;>omega
 have hd:decide (((n+m:Nat):Int)<=300)=decide (wFms s.l+wFms s.r<=300):=by
  rw[decide_eq_decide];constructor
  ·intro h;have:=hn2 (by omega);have:=hm2 (by omega);omega
  ·intro h;omega
 simp only[go_sem,zE,w,hd];exact yQ0 ⟨rfl,rfl⟩
mutual
theorem wUc:∀t:Tm,t.size<=wTm t
 | .mk _ n us=>by have:=zUf us;simp only[wTm,Tm.size];omega
theorem zUf:∀l:List Tm,yQg l<=wTms l
 | []=>Nat.le_refl _
 | a::l=>by have:=wUc a;have:=zUf l;simp only[wTms,yQg];omega
end
mutual
theorem wUd:∀f:Fm,f.size<=wFm f
 | .mk _ n us sub=>by have:=zUf us;have:=yYs sub;simp only[wFm,Fm.size];omega
theorem yYs:∀l:List Fm,yQb l<=wFms l
 | []=>Nat.le_refl _
 | a::l=>by have:=wUd a;have:=yYs l;simp only[wFms,yQb];omega
end
theorem zWi {s:Sq}(h:wFms s.l+wFms s.r<=300):yYj s:=by
 have:=yYs s.l;have:=yYs s.r;exact⟨λf hf=>by have:=yWs hf;omega,λf hf=>by have:=yWs hf;omega⟩
theorem zU6:∀ {l:List Fm}{f:Fm},f∈l->wFm f<=wFms l
 | a::l,f,h=>by
  simp only[wFms];rcases List.mem_cons.1 h with rfl|h
  ·omega
  ·have:=zU6 h;omega
theorem zJo:∀l:List Tm,l.length<=wTms l
 | []=>Nat.le_refl _
 | .mk _ n us::l=>by have:=zJo l;simp only[wTms,wTm,List.length_cons];omega
mutual
theorem xYc:∀(f:Fm),∀z∈yZg f,wFm z<=wFm f
 | .mk o n us sub=>λz hz=>by
  rw[yZg] at hz;rcases List.mem_cons.1 hz with rfl|hz
  ·exact Nat.le_refl _
  ·have:=xX9 sub z hz;simp only[wFm];omega
theorem xX9:∀(l:List Fm),∀z∈yQy l,wFm z<=wFms l
 | []=>λz hz=>by rw[yQy] at hz;cases hz
 | a::l=>λz hz=>by
  rw[yQy] at hz;simp only[wFms];rcases List.mem_append.1 hz with hz|hz
  ·have:=xYc a z hz;omega
  ·have:=xX9 l z hz;omega
end
mutual
theorem yUi:∀(f:Fm),(yZg f).length<=wFm f
 | .mk o n us sub=>by have:=yYu sub;rw[yZg,List.length_cons,wFm];omega
theorem yYu:∀(l:List Fm),(yQy l).length<=wFms l
 | []=>by rw[yQy];exact Nat.zero_le _
 | a::l=>by have:=yUi a;have:=yYu l;rw[yQy,lLa,wFms];omega
end
theorem wZn {f:Fm}(h:wFm f<=300){o:Nat}{n:ByteArray}{us:List Tm}{sub:List Fm}(hz:Fm.mk o n us sub∈yZg f):n.size<=1000000000/\us.length<=1000000:=by
 have h1:=xYc f _ hz;have h2:=zJo us;simp only[wFm] at h1;omega
mutual
def wtF:Fm->Nat
 | .mk o _ _ sub=>if o=1\/o=2 then 0 else if o=7 then 3+wtFs sub else 1+wtFs sub
def wtFs:List Fm->Nat
 | []=>0
 | a::l=>wtF a+wtFs l
end
theorem yYq:∀l m:List Fm,wtFs (l++m)=wtFs l+wtFs m
 | [],m=>by simp[wtFs]
 | a::l,m=>by simp only[List.cons_append,wtFs,yYq l m];omega
theorem xVy {l:List Fm}{k:Nat}{a:Fm}(h:l[k]?=some a):wtFs (l.take (k+1))=wtFs (l.take k)+wtF a:=by
 rw[yQ7 h,yYq];simp[wtFs]
mutual
theorem wJa:∀f:Fm,wtF f<=3*f.size
 | .mk o n us sub=>by
  have:=yU8 sub;simp only[wtF,Fm.size];split
  ·omega
  ·split<;>omega
theorem yU8:∀l:List Fm,wtFs l<=3*yQb l
 | []=>by simp[wtFs]
 | a::l=>by have:=wJa a;have:=yU8 l;simp only[wtFs,yQb];omega
end
def wtC (us:List Fm):Prop:=∀(tg:Tag) (xs:List IV) (_:okEs tg 4) (_:IsFms us xs) (_:yQb us<=1000000) (st:ISt),
 ICall prog gl 83 [.sl tg xs] st (λr st'=>r=.raw (.int .i64 (wtFs us:Int))/\st'=st)
theorem zU5 (us:List Fm)(IH:∀o n l m,Fm.mk o n l m∈us->wtC gl m):wtC gl us:=by
 intro tg xs ht hx hsz st;refine iI func83 ?_;refine LoopC.ctr us.length (λk fr st' ds=>fr 3=.iv (.raw (.int .i64 (wtFs (us.take k):Int)))/\fr 0=.iv (.sl tg xs)/\fr 4=.iv (.raw (.int .i64 k))/\st'=st/\ds=[]) ?_ ?_ ?_
 ·simp only[go_sem,zE,zB,zA,zM,zS,zL,reduceCtorEq];simp[wtFs]
 ·rintro k fr st1 _ hlt ⟨f3,f0,f4,rfl,rfl⟩;obtain⟨a,ha⟩:=yQ2 hlt;obtain⟨x,hkx,hxa⟩:=hx.get ha;have hsa:=yWs (lMg ha);have hwt:=xVy ha;have hwl:wtFs us=wtFs (us.take k)+wtFs (us.drop k):=by rw[<- yYq,List.take_append_drop]
  have hws:=yU8 us;have hwa:=wJa a;obtain⟨o,n,l,m⟩:=a;have hcall:=λtg xs h1 h2 st=>IH o n l m (lMg ha) tg xs h1 h2 (by simp only[Fm.size] at hsa;omega) st;obtain⟨tx,cx,ty,cy,rfl,hop,htx,hcx,hty,hcy⟩:=hxa.mk;have hlen:us.length<=1000000:=Nat.le_trans (yXa us) hsz;by_cases h1:o=1
  ·subst h1;simp only[go_sem,zE,zB,zA,zM,zS,zL,reduceCtorEq,f0,f3,f4,hx.len,lt_i hlt,yQ3 ht,iNn,hkx,fits,decide_true,show decide (((1:Nat):Int)=1)=true from rfl,yQd hlt (show us.length<=281474976710656 by omega)];intro _;rw[hwt];simp[wtF]
  have d1:decide ((o:Int)=1)=false:=dEf (by omega);by_cases h2:o=2
  ·subst h2;simp only[go_sem,zE,zB,zA,zM,zS,zL,reduceCtorEq,f0,f3,f4,hx.len,lt_i hlt,yQ3 ht,iNn,hkx,fits,decide_true,d1,show decide (((2:Nat):Int)=2)=true from rfl,yQd hlt (show us.length<=281474976710656 by omega)];intro _;rw[hwt];simp[wtF]
  have d2:decide ((o:Int)=2)=false:=dEf (by omega);have hmb:wtFs m<=3*1000000:=Nat.le_trans (yU8 m) (by simp only[Fm.size] at hsa;omega);have htb:wtFs (us.take k)<=3*1000000:=by omega
  by_cases h7:o=7
  ·subst h7;simp only[go_sem,zE,zB,zA,zM,zS,zL,reduceCtorEq,f0,f3,f4,hx.len,lt_i hlt,yQ3 ht,iNn,hkx,fits,d1,d2,show decide (((7:Nat):Int)=7)=true from rfl];intro _;refine (hcall ty cy hty hcy _).mono ?_;rintro _ st2 ⟨rfl,rfl⟩;have w4:IntKind.i64.wrap ((3:Int)+(wtFs m:Int))=((3+wtFs m:Nat):Int):=by rw[w64]<;>omega
   have w5:IntKind.i64.wrap ((wtFs (us.take k):Int)+((3+wtFs m:Nat):Int))=((wtFs (us.take k)+(3+wtFs m):Nat):Int):=by rw[w64]<;>omega
   simp only[go_sem,zE,zB,zA,zM,zS,zL,reduceCtorEq,f0,f3,f4,w4,w5,yQd hlt (show us.length<=281474976710656 by omega)];rw[hwt];simp[wtF]
  ·have d7:decide ((o:Int)=7)=false:=dEf (by omega);simp only[go_sem,zE,zB,zA,zM,zS,zL,reduceCtorEq,f0,f3,f4,hx.len,lt_i hlt,yQ3 ht,iNn,hkx,fits,d1,d2,d7];intro _;refine (hcall ty cy hty hcy _).mono ?_;rintro _ st2 ⟨rfl,rfl⟩;have w4:IntKind.i64.wrap ((1:Int)+(wtFs m:Int))=((1+wtFs m:Nat):Int):=by rw[w64]<;>omega
   have w5:IntKind.i64.wrap ((wtFs (us.take k):Int)+((1+wtFs m:Nat):Int))=((wtFs (us.take k)+(1+wtFs m):Nat):Int):=by rw[w64]<;>omega
   simp only[go_sem,zE,zB,zA,zM,zS,zL,reduceCtorEq,f0,f3,f4,w4,w5,yQd hlt (show us.length<=281474976710656 by omega)];rw[hwt];simp[wtF,h1,h2,h7]
 ·rintro fr st1 _ ⟨f3,f0,f4,rfl,rfl⟩;rw[lTl] at f3;simp only[go_sem,zE,zB,zA,zM,zS,zL,reduceCtorEq,f0,f3,f4,hx.len,yQm (nLi _)];intro _;exact yQ0 ⟨rfl,rfl⟩
theorem zJn:∀(k:Nat)(us:List Fm),SizeOf.sizeOf us<k->wtC gl us
 | 0,f,h=>by omega
 | k+1,us,h=>zU5 gl us (λo n l m ha=>zJn k m (by
   have:=lSm ha;simp at this;omega))
theorem xZk (us:List Fm):wtC gl us:=zJn gl _ us (Nat.lt_succ_self _)
noncomputable def yGr (s:Sq):Bool:=decide (wFms s.l+wFms s.r<=300)&&decide (wtFs s.l+wtFs s.r<=8)
theorem wYf (s:Sq)(x:IV)(hx:IsSq s x)(hw:wFms s.l<=1099511627776/\wFms s.r<=1099511627776)(st:ISt):ICall prog gl 47 [x] st (λr st'=>r=.raw (.bool (yGr s))/\st'=st):=by
 have hF:=λst=>uKw gl s x hx hw st;obtain⟨t1,x1,t2,x2,rfl,e1,i1,e2,i2⟩:=hx;refine ICall.intro (c:=cf prog gl [] [(1,[0,1,2,3,4,6,7,5,8,9,10,11,12])]) func47 rfl (by show _<=15;simp) (by kernel_rfl) ?_;simp only[go_sem,zE,zB,zA,zM,zS,zL,reduceCtorEq,fits];refine (hF _).mono ?_;rintro _ st ⟨rfl,rfl⟩;by_cases h:wFms s.l+wFms s.r<=300
 ·have h1:=yYs s.l;have h2:=yYs s.r;have hw1:=yU8 s.l;have hw2:=yU8 s.r;simp only[go_sem,zE,zB,zA,zM,zS,zL,reduceCtorEq,fits,dEt h];refine (xZk gl s.l t1 x1 e1 i1 (by omega) _).mono ?_;rintro _ st ⟨rfl,rfl⟩;simp only[go_sem,zE,zB,zA,zM,zS,zL,reduceCtorEq,fits];refine (xZk gl s.r t2 x2 e2 i2 (by omega) _).mono ?_;rintro _ st ⟨rfl,rfl⟩;have w:IntKind.i64.wrap ((wtFs s.l:Int)+(wtFs s.r:Int))=((wtFs s.l+wtFs s.r:Nat):Int):=by rw[w64]<;>omega
  have hd:decide (((wtFs s.l+wtFs s.r:Nat):Int)<=8)=decide (wtFs s.l+wtFs s.r<=8):=by rw[decide_eq_decide];omega
  simp only[go_sem,zE,zB,zA,zM,zS,zL,reduceCtorEq,fits,w,hd];exact yQ0 ⟨by unfold yGr;rw[dEt h];rfl,rfl⟩
 ·simp only[go_sem,zE,zB,zA,zM,zS,zL,reduceCtorEq,fits,dEf h];exact yQ0 ⟨by unfold yGr;rw[dEf h];rfl,rfl⟩
def atB (l:List Fm)(n:ByteArray):Prop:=∃f∈l,∃k,symIn (yZg f) n k
theorem xUz {l m:List Fm}{n:ByteArray}:atB (l++m) n↔atB l n\/atB m n:=by
 unfold atB;constructor
 ·rintro⟨f,hf,h⟩;exact (List.mem_append.1 hf).imp (λh1=>⟨f,h1,h⟩) λh1=>⟨f,h1,h⟩
 ·rintro (⟨f,hf,h⟩|⟨f,hf,h⟩)
  ·exact⟨f,List.mem_append_left _ hf,h⟩
  ·exact⟨f,List.mem_append_right _ hf,h⟩
def nmF:Fm->ByteArray
 | .mk _ n _ _=>n
theorem wKp {n:ByteArray}:∀ {l:List Fm},atB l n->n∈(yQy l).map nmF
 | [],⟨f,hf,_⟩=>by cases hf
 | a::l,⟨f,hf,k,us,sub,h1,h2⟩=>by
  rw[yQy,List.map_append];rcases List.mem_cons.1 hf with rfl|hf
  ·exact List.mem_append_left _ (List.mem_map.2 ⟨_,h1,rfl⟩)
  ·exact List.mem_append_right _ (wKp ⟨f,hf,k,us,sub,h1,h2⟩)
def nmsI (l:List ByteArray):List IV:=l.map λn=>.raw (.string n)
theorem yXz (l:List ByteArray):(nmsI l).length=l.length:=List.length_map _
theorem zQx {l:List ByteArray}{k:Nat}{n:ByteArray}(h:l[k]?=some n):(nmsI l)[k]?=some (.raw (.string n)):=by unfold nmsI;rw[List.getElem?_map,h];rfl
theorem wZr (l:List ByteArray)(n:ByteArray):nmsI l++[.raw (.string n)]=nmsI (l++[n]):=by simp[nmsI]
def NmS (P:ByteArray->Prop)(st st':ISt)(v:SV):Prop:=∃t l,v=.iv (.sl t (nmsI l))/\own st' t l.length 1 st/\subSt st st'/\l.Nodup/\∀n,n∈l↔P n
theorem NmS.iff {P Q:ByteArray->Prop}{st st':ISt}{v:SV}(h:NmS P st st' v)(k:∀n,P n↔Q n):NmS Q st st' v:=by
 obtain⟨t,l,h1,h2,h3,h4,h5⟩:=h;exact⟨t,l,h1,h2,h3,h4,λn=>(h5 n).trans (k n)⟩
def symI (n:ByteArray)(k:Nat):IV:=.agg [.raw (.string n),.raw (.int .i64 (k:Int))]
theorem xYn (s:Sq)(x:IV)(hx:IsSq s x)(hw:wFms s.l+wFms s.r<=300)(st:ISt):ICall prog gl 48 [x] st (λr st'=>(∃t l,r=.sl t (nmsI l)/\okEs t 1/\l.Nodup/\∀n,n∈l↔atB (s.l++s.r) n)/\st'=st):=by
 have hP:=λf x hx hf st=>zGz gl f x hx (Nat.le_trans (yUi f) (Nat.le_trans hf (by decide))) (λo n us sub hz=>wZn hf hz) st;have hA:((yQy (s.l++s.r)).map nmF).length<=300:=by
  rw[List.length_map];have:=yYu (s.l++s.r);rw[yVd] at this;omega
 obtain⟨t1,x1,t2,x2,rfl,e1,i1,e2,i2⟩:=hx;have hlist:∀k,k<2->∃us tg xs,([s.l,s.r]:List (List Fm))[k]?=some us/\([.sl t1 x1,.sl t2 x2]:List IV)[k]?=some (.sl tg xs)/\okEs tg 4/\IsFms us xs/\wFms us<=300/\∀f∈us,f∈s.l++s.r:=λk hk=>by
  match k,hk with
  | 0,_=>exact⟨s.l,t1,x1,rfl,rfl,e1,i1,by omega,λf hf=>List.mem_append_left _ hf⟩
  | 1,_=>exact⟨s.r,t2,x2,rfl,rfl,e2,i2,by omega,λf hf=>List.mem_append_right _ hf⟩
  | k+2,hk=>omega
 refine iI func48 ?_;simp only[go_sem,zE,zB,zA,zM,zS,zL,reduceCtorEq,fits,yQf];refine LoopC.ctr 2 (λk fr st' ds=>NmS (atB (([s.l,s.r]:List (List Fm)).take k).flatten) st st' (fr 3)/\fr 15=.iv (.sl ⟨true,.full,1⟩ [.sl t1 x1,.sl t2 x2])/\fr 16=.iv (.raw (.int .i64 2))/\fr 17=.iv (.raw (.int .i64 k))/\ds=[]) ?_ ?_ ?_
 ·simp only[go_sem,zE,zB,zA,zM,zS,zL,reduceCtorEq];exact⟨⟨_,[],rfl,own.nil ..,subSt.refl _,List.nodup_nil,λn=>⟨nofun,λ⟨f,hf,_⟩=>by simp at hf⟩⟩,rfl,rfl⟩
 ·rintro k fr st1 _ hlt ⟨hN,f15,f16,f17,rfl⟩;obtain⟨us,tg,xs,hus,hxs,htg,hix,hwu,hsub⟩:=hlist k hlt;have hk2:decide ((k:Int)<2)=true:=dEt (by omega);have hpre:∀n,atB (([s.l,s.r]:List (List Fm)).take k).flatten n->atB (s.l++s.r) n:=λn=>by
   rintro⟨f,hf,h⟩
   match k,hlt,hf with
   | 0,_,hf=>simp at hf
   | 1,_,hf=>exact⟨f,List.mem_append_left _ (by simpa using hf),h⟩
  have hfl:((([s.l,s.r]:List (List Fm)).take (k+1)).flatten)=(([s.l,s.r]:List (List Fm)).take k).flatten++us:=by rw[yQ7 hus,List.flatten_append];simp
  rw[hfl];generalize hQ:(([s.l,s.r]:List (List Fm)).take k).flatten=Q at hN hpre;have hul:=yXa us;have hus2:=yYs us;simp only[go_sem,zE,zB,zA,zM,zS,zL,reduceCtorEq,f15,f16,f17,fits,iNn,hk2,hxs,yQ3 (show okEs ⟨true,.full,1⟩ 1 from .inr rfl)];refine LoopC.ctr us.length (λj fr st' ds=>NmS (atB (Q++us.take j)) st st' (fr 3)/\fr 5=.iv (.sl tg xs)/\fr 6=.iv (.raw (.int .i64 j))/\fr 15=.iv (.sl ⟨true,.full,1⟩ [.sl t1 x1,.sl t2 x2])/\fr 16=.iv (.raw (.int .i64 2))/\fr 17=.iv (.raw (.int .i64 k))/\ds=[]) ?_ ?_ ?_
  ·simp only[go_sem,zE,zB,zA,zM,zS,zL,reduceCtorEq,f15,f16,f17];exact⟨by simpa using hN,rfl⟩
  ·rintro j fr st1 _ hlj ⟨hN,f5,f6,f15,f16,f17,rfl⟩;obtain⟨f,hf⟩:=yQ2 hlj;obtain⟨z,hz,hfz⟩:=hix.get hf;have hfm:=lMg hf;have hPf:=λst=>hP f z hfz (Nat.le_trans (zU6 hfm) hwu) st;obtain⟨o1,n1,q1,z1,q2,z2,rfl⟩:=hfz.agg;simp only[go_sem,zE,zB,zA,zM,zS,zL,reduceCtorEq,f5,f6,f15,f16,f17,hix.len,lt_i hlj,yQ3 htg,iNn,hz,fits];intro _;refine (hPf _).mono ?_;rintro _ st2 ⟨ty,ys,rfl,hty,hys,rfl⟩;have hyl:ys.length<=300:=Nat.le_trans hys.len (Nat.le_trans (yUi f) (Nat.le_trans (zU6 hfm) hwu));simp only[go_sem,zE,zB,zA,zM,zS,zL,reduceCtorEq,f5,f6,f15,f16,f17,fits];intro _;refine LoopC.ctr ys.length (λi fr st' ds=>NmS (λn=>atB (Q++us.take j) n\/∃m,symI n m∈ys.take i) st st' (fr 3)/\fr 31=.iv (.sl ty ys)/\fr 32=.iv (.raw (.int .i64 ys.length))/\fr 33=.iv (.raw (.int .i64 i))/\fr 5=.iv (.sl tg xs)/\fr 6=.iv (.raw (.int .i64 j))/\fr 15=.iv (.sl ⟨true,.full,1⟩ [.sl t1 x1,.sl t2 x2])/\fr 16=.iv (.raw (.int .i64 2))/\fr 17=.iv (.raw (.int .i64 k))/\ds=[]) ?_ ?_ ?_
   ·simp only[go_sem,zE,zB,zA,zM,zS,zL,reduceCtorEq,f5,f6,f15,f16,f17];exact⟨hN.iff λn=>by simp,rfl⟩
   ·rintro i fr st1 _ hli ⟨hN,f31,f32,f33,f5,f6,f15,f16,f17,rfl⟩;obtain⟨t,l,f3,hown,hsubS,hnd,hl⟩:=hN;obtain⟨y,hy⟩:=yQ2 hli;obtain⟨nm,na,rfl,hnm,hin⟩:=hys.key y (lMg hy);have hll:l.length<=300:=Nat.le_trans (yGo l _ hnd λn hn=>by
     refine wKp ?_;rcases (hl n).1 hn with h|⟨m,h⟩
     ·rcases xUz.1 h with h|⟨f',h1,h⟩
      ·exact hpre n h
      ·exact⟨f',hsub f' (List.mem_of_mem_take h1),h⟩
     ·obtain⟨n',m',h1,_,h2⟩:=hys.key _ (List.mem_of_mem_take h);simp only[symI,IV.agg.injEq,List.cons.injEq,IV.raw.injEq,Value.string.injEq] at h1;obtain⟨rfl,_⟩:=h1;exact⟨f,hsub f hfm,_,h2⟩) hA
    simp only[go_sem,zE,zB,zA,zM,zS,zL,reduceCtorEq,f31,f32,f33,f5,f6,f15,f16,f17,lt_i hli,yQ3 hty,iNn,hy,fits];refine LoopC.ctr l.length (λq fr st' ds=>(∃b:Bool,fr 9=.iv (.raw (.bool b))/\(b=true↔nm∈l.take q))/\fr 3=.iv (.sl t (nmsI l))/\fr 8=.box [.raw (.string nm),.raw (.int .i64 (na:Int))]/\fr 10=.iv (.raw (.int .i64 q))/\st'=st1/\fr 31=.iv (.sl ty ys)/\fr 32=.iv (.raw (.int .i64 ys.length))/\fr 33=.iv (.raw (.int .i64 i))/\fr 5=.iv (.sl tg xs)/\fr 6=.iv (.raw (.int .i64 j))/\fr 15=.iv (.sl ⟨true,.full,1⟩ [.sl t1 x1,.sl t2 x2])/\fr 16=.iv (.raw (.int .i64 2))/\fr 17=.iv (.raw (.int .i64 k))/\ds=[]) ?_ ?_ ?_
    ·simp only[go_sem,zE,zB,zA,zM,zS,zL,reduceCtorEq,f3,f31,f32,f33,f5,f6,f15,f16,f17];simp
    ·rintro q fr st1 _ hlq ⟨⟨b,f9,hb⟩,f3,f8,f10,rfl,f31,f32,f33,f5,f6,f15,f16,f17,rfl⟩;obtain⟨nq,hq⟩:=yQ2 hlq;have hes:=hown.es;have htk:∀b':Bool,(b'=true↔(b=true\/nq=nm))->(b'=true↔nm∈l.take (q+1)):=λb' h=>by
      rw[h,hb,yQ7 hq,List.mem_append,List.mem_singleton];exact or_congr Iff.rfl eq_comm
     cases b
     ·simp only[go_sem,zE,zB,zA,zM,zS,zL,reduceCtorEq,f3,f8,f9,f10,f31,f32,f33,f5,f6,f15,f16,f17,yXz,lt_i hlq,yQ3 hes,iNn,zQx hq,fits,yQd hlq (show l.length<=281474976710656 by omega)];intros;exact⟨_,rfl,htk _ (by simp)⟩
     ·simp only[go_sem,zE,zB,zA,zM,zS,zL,reduceCtorEq,f3,f8,f9,f10,f31,f32,f33,f5,f6,f15,f16,f17,yXz,lt_i hlq,yQ3 hes,iNn,zQx hq,fits,yQd hlq (show l.length<=281474976710656 by omega)];intros;exact⟨true,rfl,htk _ (by simp)⟩
    ·rintro fr st1 _ ⟨⟨b,f9,hb⟩,f3,f8,f10,rfl,f31,f32,f33,f5,f6,f15,f16,f17,rfl⟩;rw[lTl] at hb;have htk:∀n,(∃m,symI n m∈ys.take (i+1))↔(∃m,symI n m∈ys.take i)\/n=nm:=λn=>by
      rw[yQ7 hy];constructor
      ·rintro⟨m,hm⟩;rcases List.mem_append.1 hm with h|h
       ·exact .inl ⟨m,h⟩
       ·simp only[List.mem_singleton,symI,IV.agg.injEq,List.cons.injEq,IV.raw.injEq,Value.string.injEq] at h;exact .inr h.1
      ·rintro (⟨m,hm⟩|rfl)
       ·exact⟨m,List.mem_append_left _ hm⟩
       ·exact⟨na,List.mem_append_right _ (List.mem_singleton.2 rfl)⟩
     cases b
     ·simp only[go_sem,zE,zB,zA,zM,zS,zL,reduceCtorEq,f3,f8,f9,f10,f31,f32,f33,f5,f6,f15,f16,f17,yXz,yQm (nLi _),fits,yQ1];intros;refine yX4 hown (yXz l) hsubS rfl (by simp[fits,IV.one]) (by simp only;omega) (by omega) λt' st2 w1 w2 w3=>?_;simp only[go_sem,zE,zB,zA,zM,zS,zL,reduceCtorEq,f3,f8,f9,f10,f31,f32,f33,f5,f6,f15,f16,f17,yQd hli (show ys.length<=281474976710656 by omega)];refine⟨t',l++[nm],by rw[wZr],by rw[lLa];exact w1,w2,?_,λn=>?_⟩
      ·have:nm ∉ l:=λh=>by cases hb.2 h
       rw[List.nodup_append];exact⟨hnd,by simp,λa ha b hb=>by rw[List.mem_singleton.1 hb];rintro rfl;exact this ha⟩
      ·rw[List.mem_append,List.mem_singleton];exact (or_congr (hl n) Iff.rfl).trans (or_assoc.trans (or_congr Iff.rfl (htk n).symm))
     ·simp only[go_sem,zE,zB,zA,zM,zS,zL,reduceCtorEq,f3,f8,f9,f10,f31,f32,f33,f5,f6,f15,f16,f17,yXz,yQm (nLi _),fits,yQ1,yQd hli (show ys.length<=281474976710656 by omega)];intros;refine⟨t,l,rfl,hown,hsubS,hnd,λn=>?_⟩;refine (hl n).trans (Iff.trans ⟨.inl,?_⟩ (or_assoc.trans (or_congr Iff.rfl (htk n).symm)));rintro (h|rfl)
      ·exact h
      ·exact (hl _).1 (hb.1 rfl)
   ·rintro fr st1 _ ⟨hN,f31,f32,f33,f5,f6,f15,f16,f17,rfl⟩;rw[lTl] at hN;simp only[go_sem,zE,zB,zA,zM,zS,zL,reduceCtorEq,f31,f32,f33,f5,f6,f15,f16,f17,yQm (nLi _),yQd hlj (show us.length<=281474976710656 by omega)];intros;refine hN.iff λn=>?_;rw[yQ7 hf,<- List.append_assoc,xUz (m:=[f])];refine or_congr Iff.rfl ⟨?_,?_⟩
    ·rintro⟨m,h⟩;obtain⟨n',m',h1,_,h2⟩:=hys.key _ h;simp only[symI,IV.agg.injEq,List.cons.injEq,IV.raw.injEq,Value.string.injEq] at h1;obtain⟨rfl,_⟩:=h1;exact⟨f,by simp,_,h2⟩
    ·rintro⟨f',h1,m,h2⟩;rw[List.mem_singleton.1 h1] at h2;exact⟨m,hys.cov _ _ h2⟩
  ·rintro fr st1 _ ⟨hN,f5,f6,f15,f16,f17,rfl⟩;rw[lTl] at hN;simp only[go_sem,zE,zB,zA,zM,zS,zL,reduceCtorEq,f5,f6,f15,f16,f17,hix.len,yQm (nLi _),yQd hlt (show 2<=281474976710656 by decide)];intro _;exact hN
 ·rintro fr st1 _ ⟨⟨t,l,f3,hown,hsub,hnd,hl⟩,f15,f16,f17,rfl⟩;have hes:=hown.es;simp only[go_sem,zE,zB,zA,zM,zS,zL,reduceCtorEq,f3,f15,f16,f17,fits,show decide (((2:Nat):Int)<2)=false from rfl];exact yQs hsub ⟨⟨t,l,rfl,hes,hnd,λn=>by rw[hl n];simp⟩,rfl⟩
def FewS (ca:Nat)(s:Sq)(k:Int):Prop:=(ca=1\/ca=2)/\yGr s=true/\yQx ca s=true/\∃l:List ByteArray,l.Nodup/\(∀n,n∈l↔atB (s.l++s.r) n)/\(l.length:Int)<=k
theorem FewS.w {ca:Nat}{s:Sq}{k:Int}(h:FewS ca s k):wFms s.l+wFms s.r<=300:=by
 have:=h.2.1;unfold yGr at this;rw[bAt,dTe] at this;exact this.1
theorem wJo (G:Gl gl)(ca:Nat)(s:Sq)(x:IV)(hx:IsSq s x)(hw:wFms s.l<=1099511627776/\wFms s.r<=1099511627776)(k:Int)(st:ISt) :
  ICall prog gl 20 [.raw (.int .u8 (ca:Int)),x,.raw (.int .i64 k)] st (λr st'=>(∃b:Bool,r=.raw (.bool b)/\(b=true->FewS ca s k))/\st'=st):=by
 have hL:=λst=>wYf gl s x hx hw st;have hV:=λh st=>wQj gl G ca s x hx h st;have hN:=λh st=>xYn gl s x hx h st;obtain⟨t1,x1,t2,x2,rfl,e1,i1,e2,i2⟩:=hx;refine iI func20 ?_;by_cases h1:ca=1
 ·have h1':decide ((ca:Int)=1)=true:=dEt (by omega);simp only[go_sem,zE,zB,zA,zM,zS,zL,reduceCtorEq,fits,h1'];refine (hL _).mono ?_;rintro _ st ⟨rfl,rfl⟩;cases hb:yGr s
  ·simp only[go_sem,zE,zB,zA,zM,zS,zL,reduceCtorEq,fits];exact yQ0 ⟨⟨_,rfl,λh=>by simp at h⟩,rfl⟩
  have hw3:wFms s.l+wFms s.r<=300:=by
   unfold yGr at hb;rw[bAt,dTe] at hb;exact hb.1
  simp only[go_sem,zE,zB,zA,zM,zS,zL,reduceCtorEq,fits,h1'];refine (hV (zWi hw3) _).mono ?_;rintro _ st ⟨rfl,rfl⟩;cases hvb:yQx ca s
  ·simp only[go_sem,zE,zB,zA,zM,zS,zL,reduceCtorEq,fits,h1'];exact yQ0 ⟨⟨_,rfl,λh=>by simp at h⟩,rfl⟩
  simp only[go_sem,zE,zB,zA,zM,zS,zL,reduceCtorEq,fits,h1'];refine (hN hw3 _).mono ?_;rintro _ st ⟨⟨t,l,rfl,ht,hnd,hl⟩,rfl⟩;simp only[go_sem,zE,zB,zA,zM,zS,zL,reduceCtorEq,fits,h1',yXz];intros;exact yQ0 ⟨⟨_,rfl,λh=>⟨.inl h1,hb,hvb,l,hnd,hl,by simpa using h⟩⟩,rfl⟩
 have h1':decide ((ca:Int)=1)=false:=dEf (by omega);by_cases h2:ca=2
 ·have h2':decide ((ca:Int)=2)=true:=dEt (by omega);simp only[go_sem,zE,zB,zA,zM,zS,zL,reduceCtorEq,fits,h1',h2'];refine (hL _).mono ?_;rintro _ st ⟨rfl,rfl⟩;cases hb:yGr s
  ·simp only[go_sem,zE,zB,zA,zM,zS,zL,reduceCtorEq,fits];exact yQ0 ⟨⟨_,rfl,λh=>by simp at h⟩,rfl⟩
  have hw3:wFms s.l+wFms s.r<=300:=by
   unfold yGr at hb;rw[bAt,dTe] at hb;exact hb.1
  simp only[go_sem,zE,zB,zA,zM,zS,zL,reduceCtorEq,fits,h1',h2'];refine (hV (zWi hw3) _).mono ?_;rintro _ st ⟨rfl,rfl⟩;cases hvb:yQx ca s
  ·simp only[go_sem,zE,zB,zA,zM,zS,zL,reduceCtorEq,fits,h1',h2'];exact yQ0 ⟨⟨_,rfl,λh=>by simp at h⟩,rfl⟩
  simp only[go_sem,zE,zB,zA,zM,zS,zL,reduceCtorEq,fits,h1',h2'];refine (hN hw3 _).mono ?_;rintro _ st ⟨⟨t,l,rfl,ht,hnd,hl⟩,rfl⟩;simp only[go_sem,zE,zB,zA,zM,zS,zL,reduceCtorEq,fits,h1',h2',yXz];intros;exact yQ0 ⟨⟨_,rfl,λh=>⟨.inr h2,hb,hvb,l,hnd,hl,by simpa using h⟩⟩,rfl⟩
 have h2':decide ((ca:Int)=2)=false:=dEf (by omega);simp only[go_sem,zE,zB,zA,zM,zS,zL,reduceCtorEq,fits,h1',h2'];exact yQ0 ⟨⟨_,rfl,λh=>by simp at h⟩,rfl⟩
end Go.Proofs.Tryz
namespace Go.Proofs.Tryz
open Go Go.Iv
set_option maxRecDepth 8000
variable (gl:Nat->Option IV)
def vXv (ca:Nat)(s:Sq)(h e:Nat):Prop:=(e≠0/\h=0/\BadR ca s e)\/(e=0/\h=hF (calJ ca) (s.l,s.r))
theorem xGf (G:Gl gl)(T:Gt gl)(ca:Nat)(s:Sq)(x:IV)(hx:IsSq s x)(hs:yYj s)(st:ISt) :
  ICall prog gl 18 [.raw (.int .u8 (ca:Int)),x] st (λr st'=>(∃h e:Nat,r=.tup [.raw (.int .i64 (h:Int)),.raw (.int .i64 (e:Int))]/\vXv ca s h e)/\st'=st) :=
 (xXp gl G T ca s x hx hs st).mono λr st' ⟨h1,h2⟩=>by
  rcases h2 with⟨e,hb,h3⟩|⟨_,_,_,h3⟩
  ·exact⟨⟨0,e,h3,.inl ⟨hb.ne,rfl,hb⟩⟩,h1⟩
  ·exact⟨⟨_,0,h3,.inr ⟨rfl,rfl⟩⟩,h1⟩
end Go.Proofs.Tryz
namespace Go.Proofs.Tryz
open Go Go.Iv
theorem yG9 {ca:Nat}{s:Sq}(h:yQx ca s=true):∀f∈s.l++s.r,fmB ca f=true:=by
 unfold yQx at h;simp only[bAt,dTe,List.all_eq_true] at h;obtain⟨⟨⟨⟨⟨_,hl⟩,hr⟩,hfl⟩,hfr⟩,_⟩:=h;exact λf hf=>(List.mem_append.1 hf).elim (hfl f) (hfr f)
end Go.Proofs.Tryz
namespace Go.Proofs.Tryz
open Go Go.Iv
theorem vXf {f:Fm}(hf:PF f):∀g∈cloF f,PF g:=by
 induction hf with
 | atom n=>intro g hg;simp[cloF,yZj,yJg] at hg;subst hg;exact .atom n
 | fls=>intro g hg;simp[cloF,yZj,yJg] at hg;subst hg;exact .fls
 | neg h ih =>
  intro g hg;rcases zQ1.1 hg with rfl|hg
  ·exact .neg h
  ·exact ih g hg
 | bin h4 h7 ha hb iha ihb =>
  intro g hg;rcases xZ2 hg with rfl|⟨_,rfl|rfl⟩|hg|hg
  ·exact .bin h4 h7 ha hb
  ·exact .bin (by decide) (by decide) ha hb
  ·exact .bin (by decide) (by decide) hb ha
  ·exact iha g hg
  ·exact ihb g hg
theorem wXd {l:List Fm}(hp:∀f∈l,PF f):Full (yZj l)/\∀f∈yZj l,PF f:=by
 refine⟨λf hf j r t ht p hpp=>?_,λf hf=>?_⟩
 ·obtain⟨f0,h0,h1⟩:=yJq.1 hf;obtain⟨k1,k2⟩:=xUw (hp f0 h0) f h1 j r t ht p hpp;exact⟨λg hg=>yJq.2 ⟨f0,h0,k1 g hg⟩,λg hg=>yJq.2 ⟨f0,h0,k2 g hg⟩⟩
 ·obtain⟨f0,h0,h1⟩:=yJq.1 hf;exact vXf (hp f0 h0) f h1
theorem wK5 {l:List Fm}{f:Fm}(h:f∈l):f∈yZj l:=yJq.2 ⟨f,h,yY8 f⟩
theorem refuted {L R:List Fm}(hp:∀f∈L++R,PF f)(h:hF false (L,R)=0):∃v:ByteArray->Bool,(∀f∈L,tr v f=true)/\∀f∈R,tr v f=false:=by
 obtain⟨h1,h2⟩:=wXd hp;exact UnP.refuted h1 h2 _ L R (λf hf=>wK5 (List.mem_append_left _ hf)) (λf hf=>wK5 (List.mem_append_right _ hf)) (xU1.1 h) (Nat.le_refl _)
theorem wV1 {L R:List Fm}(hp:∀f∈L++R,PF f)(h:0<hF false (L,R)){v:ByteArray->Bool}(hv:∀f∈L,tr v f=true):∃f∈R,tr v f=true :=
 HtF.valid v (xU2 h) (λf hf=>hp f (List.mem_append_left _ hf)) (λf hf=>hp f (List.mem_append_right _ hf)) hv
end Go.Proofs.Tryz
namespace Go.Proofs.Tryz
open Go Go.Iv
set_option maxRecDepth 8000
variable (gl:Nat->Option IV)
end Go.Proofs.Tryz
namespace Go.Proofs.Tryz
open Go Go.Iv
set_option maxRecDepth 8000
variable (gl:Nat->Option IV)
