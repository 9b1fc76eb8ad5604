/- Walks: lists of numbers put together. -/
import Derived.Test.YtclkffdkahljeaaGreatDoorQB
import Derived.Test.YtclkffdkahljeaaGreatDoorLA
set_option linter.all false
open Nat renaming reduceEqDiff → zE,reduceBEq → zB,reduceAdd → zA,reduceMul → zM,reduceLeDiff → zL
namespace Go.Proofs.Tryz
open Go Go.Iv
set_option maxRecDepth 4000
variable (gl:Nat->Option IV)
theorem vZr (n:Nat)(O:n<=1099511627776)(st:ISt):ICall prog gl 188 [.sl ⟨true,.nil,0⟩ [],.raw (.int .i64 n)] st (λr st' =>
  (n=0/\r=.sl ⟨true,.nil,0⟩ []/\st'=st)\/(∃g cap,st g=none/\n<=cap/\r=.raw (.slice (some ⟨g,0,none⟩) 0 cap)/\st'=st.put g (some (.box (List.replicate cap .junk))))):=by
 have h1:decide ((n:Int)<0)=false:=dEf (by omega);have h2:IntKind.i64.wrap ((0:Int)-((0:Nat):Int))=0:=rfl;have D:IntKind.i64.wrap ((n:Int)-0)=n:=w64 (by omega) (by omega);refine iI func188 ?_;by_cases E:n=0
 ·subst E;simp only[go_sem,zE,zL,reduceCtorEq,h1,h2,D,show decide ((0:Int)<((0:Nat):Int))=false from rfl];refine yQ0 (.inl ?_);simp
 ·have J:decide ((0:Int)<(n:Int))=true:=dEt (by omega);simp only[go_sem,zE,zL,reduceCtorEq,h1,h2,D,J,zQu,xVq];refine yQj ⟨rfl,by omega,by show (n:Int)*8<=_;omega,by omega,by decide⟩ λg cap=>yQ8 λA=>?_;obtain⟨A,hc⟩:=A;rw[Int.toNat_natCast] at hc;simp only[go_sem,zE,zL,reduceCtorEq,Int.toNat_natCast,zJd,ite_self,Nat.mul_one,hc];exact yQ0 (.inr ⟨g,cap,A,hc,rfl,rfl⟩)
theorem vWp {y:IV}(h:fits false 1 y=true):y.cells.length=1:=(yZt h).2.1
theorem uWw {l:List IV}(h:∀y∈l,fits false 1 y=true):(l.flatMap IV.cells).length=l.length:=(yQn l λx hx=>vWp (h x hx)).trans (Nat.mul_one _)
theorem wKh (l:List (Tag×List IV))(tt:Tag)(O:okEs tt 1)(J:∀p∈l,∀y∈p.2,fits false 1 y=true)(ai:(catL l).length<=1099511627776)(st:ISt) :
  ICall prog gl 136 [.sl tt (catI l)] st (λr st'=>(∃t,r=.sl t []/\t.cap=.nil/\catL l=[]/\st'=st) \/
   ∃g cap cs,st g=none/\(catL l).length<=cap/\cap<=cs.length/\cs.take ((catL l).length)=(catL l).flatMap IV.cells/\r=.raw (.slice (some ⟨g,0,none⟩) (catL l).length cap)/\st'=st.put g (some (.box cs))):=by
 have U:(catI l).length=l.length:=by simp[catI]
 have aB:∀y∈catL l,fits false 1 y=true:=λy hy=>by
  obtain⟨p,hp,hy⟩:=List.mem_flatMap.1 hy;exact J p hp y hy
 refine iI func136 ?_;simp only[go_sem,reduceCtorEq,U];intro hl;refine LoopC.ctr l.length (λk fr st' ds=>fr 0=.iv (.sl tt (catI l))/\fr 3=.iv (.raw (.int .i64 (catL (l.take k)).length))/\fr 9=.iv (.sl tt (catI l))/\fr 10=.iv (.raw (.int .i64 l.length))/\fr 11=.iv (.raw (.int .i64 k))/\st'=st/\ds=[]) ?_ ?_ ?_
 ·simp only[go_sem,zE,reduceCtorEq];simp[catL]
 ·rintro k fr D _ A ⟨f0,f3,f9,f10,f11,rfl,rfl⟩;obtain⟨p,hp⟩:=yQ1 A;have h1:=yYz l k;have h2:=yYz l (k+1);rw[yX8 hp,lLa] at h2;have h3:IntKind.i64.wrap ((((catL (l.take k)).length:Nat):Int)+((p.2.length:Nat):Int))=((catL (l.take (k+1))).length:Nat):=by
   rw[w64 (by omega) (by omega),yX8 hp,lLa];omega
  have h4:decide ((((catL (l.take (k+1))).length:Nat):Int)<0)=false:=dEf (by omega);simp only[go_sem,zE,f3,f9,f10,f11,lt_i A,yQ3 O,iNn,yGk hp,fits,h3];intro aA;simp only[go_sem,zE,reduceCtorEq,h3,h4,f0,f9,f10,f11,yQc A (show l.length<=281474976710656 by omega)]
 ·rintro fr D _ ⟨f0,f3,f9,f10,f11,rfl,rfl⟩;rw[lTl] at f3;simp only[go_sem,zE,zA,f3,f10,f11,yQi (nLi _)];refine (vZr gl (catL l).length ai _).mono ?_;have loop:∀(I:Nat->IV->ISt->Prop),True:=λ_=>trivial;rintro r al (⟨hz,rfl,rfl⟩|⟨g,cap,hg,aw,rfl,rfl⟩)
  ·have E:catL l=[]:=List.eq_nil_of_length_eq_zero hz;simp only[go_sem,reduceCtorEq,f0,U];intro _;refine LoopC.ctr l.length (λk fr st' ds=>(∃t,fr 6=.iv (.sl t [])/\t.cap=.nil)/\fr 25=.iv (.sl tt (catI l))/\fr 26=.iv (.raw (.int .i64 l.length))/\fr 27=.iv (.raw (.int .i64 k))/\st'=al/\ds=[]) ?_ ?_ ?_
   ·simp only[go_sem,zE];exact⟨⟨_,rfl,rfl⟩,rfl⟩
   ·rintro k fr D _ A ⟨⟨t,f6,ht⟩,f25,f26,f27,rfl,rfl⟩;obtain⟨p,hp⟩:=yQ1 A;have an:p.2=[]:=by
     have:=yX8 hp;have h2:=yYz l (k+1);rw[this,lLa,E,List.length_nil] at h2;exact List.eq_nil_of_length_eq_zero (by omega)
    obtain⟨fs,c,es⟩:=t;obtain rfl:c=.nil:=ht;simp only[go_sem,zE,zA,zM,zL,f6,f25,f26,f27,lt_i A,yQ3 O,iNn,yGk hp,fits,an,yQc A (show l.length<=281474976710656 by omega)];exact⟨_,rfl,rfl⟩
   ·rintro fr D _ ⟨⟨t,f6,ht⟩,f25,f26,f27,rfl,rfl⟩;simp only[go_sem,zE,f6,f26,f27,yQi (nLi _)];exact yQ0 (.inl ⟨_,rfl,ht,E,rfl⟩)
  ·simp only[go_sem,reduceCtorEq,f0,U];intro _;refine LoopC.ctr l.length (λk fr st' ds=>(∃g cap cs,D g=none/\(catL (l.take k)).length<=cap/\cap<=cs.length/\cs.take ((catL (l.take k)).length)=(catL (l.take k)).flatMap IV.cells/\fr 6=.iv (.raw (.slice (some ⟨g,0,none⟩) (catL (l.take k)).length cap))/\st'=D.put g (some (.box cs)))/\fr 25=.iv (.sl tt (catI l))/\fr 26=.iv (.raw (.int .i64 l.length))/\fr 27=.iv (.raw (.int .i64 k))/\ds=[]) ?_ ?_ ?_
   ·simp only[go_sem,zE];exact⟨⟨g,cap,_,hg,by simp[catL],by simp,by simp[catL],by simp[catL],rfl⟩,rfl⟩
   ·rintro k fr st' _ A ⟨⟨g,cap,cs,hg,ac,ab,aa,f6,rfl⟩,f25,f26,f27,rfl⟩;obtain⟨p,hp⟩:=yQ1 A;have h2:=yYz l (k+1);rw[yX8 hp,lLa] at h2;have ah:=J p (lMg hp);simp only[go_sem,zE,zA,f6,f25,f26,f27,lt_i A,yQ3 O,iNn,yGk hp,fits];refine yX3 _ _ _ (ISt.put_same ..) (List.all_eq_true.2 ah) ⟨by show _*8<=_;omega,by omega⟩ ⟨ac,by simp only[Nat.mul_one];exact ab⟩ ((uWw ah).trans (Nat.mul_one _).symm) ?_;intro g' aj cs' aq k1 k2 k3;simp only[Nat.mul_one] at k2 k3;simp only[go_sem,zE,f25,f26,f27,yQc A (show l.length<=281474976710656 by omega)];have ag:((D.put g (some (.box cs))).put g none).put g' (some (.box cs'))=D.put g' (some (.box cs')):=by
     funext c;simp only[ISt.put_apply];split
     ·rfl
     ·split
      ·subst_vars;exact hg.symm
      ·rfl
    have ao:D g'=none:=by
     rcases aq with rfl|h
     ·exact hg
     ·rw[ISt.put_apply] at h;split at h
      ·cases h
      ·exact h
    refine⟨g',aj,cs',ao,?_,k2,?_,?_,ag⟩
    ·rw[yX8 hp,lLa];exact k1
    ·rw[yX8 hp,lLa,List.flatMap_append,<- aa];exact k3
    ·rw[yX8 hp,lLa]
   ·rintro fr st' _ ⟨⟨g,cap,cs,hg,ac,ab,aa,f6,rfl⟩,f25,f26,f27,rfl⟩;rw[lTl] at *;simp only[go_sem,zE,f6,f26,f27,yQi (nLi _)];exact yQ0 (.inr ⟨g,cap,cs,hg,ac,ab,aa,rfl,rfl⟩)
theorem wGc (n:Nat):Int.fdiv (n:Int) (2 ^ min (Int.toNat 1) 64)=((n / 2:Nat):Int):=by
 rw[show (2:Int) ^ min (Int.toNat 1) 64=((2:Nat):Int) from rfl];exact (Int.ofNat_fdiv n 2).symm
theorem wGd {a b n:Nat}(h:a<=b)(A:b<=n)(hl:n<=1099511627776):IntKind.u64.wrap (IntKind.i64.wrap ((a:Int)+(b:Int)))=((a+b:Nat):Int)/\IntKind.i64.wrap (((a+b) / 2:Nat):Int)=(((a+b) / 2:Nat):Int):=by
 have h1:IntKind.i64.wrap ((a:Int)+(b:Int))=((a+b:Nat):Int):=by rw[w64 (by omega) (by omega)];omega
 rw[h1];exact⟨IntWalk.u64_in _ (by omega),w64 (by omega) (by omega)⟩
theorem kQk (W:List Fm)(tg:Tag)(xs:List IV)(af:okEs tg 4)(hx:IsFms W xs)(hW:Srt W)(ag:W.length<=1099511627776)(f:Fm)(y:IV)(hy:IsFm f y)(st:ISt) :
  ICall prog gl 105 [.sl tg xs,y,.fn (.func 91) [] []] st
   (λr st'=>(∃(i:Nat) (b:Bool),r=.tup [.raw (.int .i64 (i:Int)),.raw (.bool b)]/\(b=true↔f∈W)/\(b=true->W[i]?=some f))/\st'=st):=by
 have U:=λa x hx st=>zQg gl a f x y hx hy st;obtain⟨y1,y2,y3,y4,y5,y6,rfl⟩:=hy.agg;have hxl:=hx.len;have c1:=λn:Int=>yJ1 prog 3 185 zVi zGe .i64 n;have c2:=λn:Int=>yJ1 prog 185 3 zGe zVi .u64 n;refine iI func105 ?_;simp only[go_sem,zE,reduceCtorEq,hxl];intro _;refine LoopC.dec W.length (λm fr st' ds=>(∃lo A,m=A-lo/\lo<=A/\A<=W.length/\(∀k a,k<lo->W[k]?=some a->yZ6 a f<0)/\(∀k a,A<=k->W[k]?=some a->¬ yZ6 a f<0)/\fr 9=.iv (.raw (.int .i64 (lo:Int)))/\fr 10=.iv (.raw (.int .i64 (A:Int))))/\fr 0=.iv (.sl tg xs)/\fr 2=.iv (.fn (.func 91) [] []) /\
  fr 4=.box [.raw (.int .u8 y1),.raw (.string y2),.sl y3 y4,.sl y5 y6]/\fr 8=.iv (.raw (.int .i64 W.length))/\st'=st/\ds=[]) ?_ ?_
 ·simp only[go_sem,zE,reduceCtorEq];refine⟨0,W.length,by omega,by omega,by omega,λk a O=>absurd O (by omega),λk a O D=>?_,rfl,rfl⟩;have:=(lGs D).1;omega
 ·rintro m fr aH _ ⟨⟨lo,A,hm,an,ah,h1,h2,f9,f10⟩,f0,f2,f4,f8,rfl,rfl⟩;by_cases am:lo<A
  ·obtain⟨al,ak⟩:=wGd an ah ag;obtain⟨a,D⟩:=yQ1 (l:=W) (k:=(lo+A) / 2) (by omega);obtain⟨x,ac,E⟩:=hx.get D;obtain⟨x1,x2,x3,x4,x5,x6,rfl⟩:=E.agg;simp only[go_sem,zE,zB,zA,zL,reduceCtorEq,f0,f2,f4,f9,f10,lt_i am,c1,c2,show ((0:Int)<=1)=True from eq_true (by omega),wGc,al,ak,yQ3 af,iNn,ac,fits];refine (U a _ E _).mono ?_;rintro _ _ ⟨rfl,rfl⟩;by_cases hc:yZ6 a f<0
   ·simp only[go_sem,zE,reduceCtorEq,f0,f2,f4,f8,f10,dEt hc,yQc (show (lo+A) / 2<W.length by omega) (show W.length<=281474976710656 by omega)];refine⟨A-((lo+A) / 2+1),by omega,(lo+A) / 2+1,A,rfl,by omega,ah,λk b O hb=>?_,h2,rfl,rfl⟩;rcases Nat.lt_or_ge k ((lo+A) / 2) with h|h
    ·exact yWx _ _ _ (zVr hW hb D h) hc
    ·obtain rfl:k=(lo+A) / 2:=by omega
     rw[D] at hb;cases hb;exact hc
   ·simp only[go_sem,zE,reduceCtorEq,f0,f2,f4,f8,f9,dEf hc];refine⟨(lo+A) / 2-lo,by omega,lo,(lo+A) / 2,rfl,by omega,by omega,h1,λk b O hb=>?_,rfl,rfl⟩;rcases Nat.lt_or_ge ((lo+A) / 2) k with h|h
    ·exact λao=>hc (yWx _ _ _ (zVr hW D hb h) ao)
    ·obtain rfl:k=(lo+A) / 2:=by omega
     rw[D] at hb;cases hb;exact hc
  ·obtain rfl:lo=A:=by omega
   have ae:∀k,W[k]?=some f->k=lo:=λk O=>by
    rcases Nat.lt_trichotomy k lo with h|h|h
    ·exact absurd (h1 k f h O) (yWc f)
    ·exact h
    ·obtain⟨b,hb⟩:=yQ1 (l:=W) (k:=lo) (by have:=(lGs O).1;omega);exact absurd (zVr hW hb O h) (h2 lo b (Nat.le_refl _) hb)
   have J:f∈W↔W[lo]?=some f:=⟨λh=>by
    obtain⟨k,O⟩:=List.mem_iff_getElem?.1 h
    rwa [ae k O] at O,lMg⟩
   by_cases ab:lo<W.length
   ·obtain⟨a,D⟩:=yQ1 ab;obtain⟨x,ac,E⟩:=hx.get D;obtain⟨x1,x2,x3,x4,x5,x6,rfl⟩:=E.agg;simp only[go_sem,zE,zB,zA,zL,reduceCtorEq,f0,f2,f4,f8,f9,f10,yQi (nLi _),lt_i ab,yQ3 af,iNn,ac,fits];refine (U a _ E _).mono ?_;rintro _ _ ⟨rfl,rfl⟩;by_cases hc:yZ6 a f=0
    ·simp only[go_sem,zE,dEt hc];refine yQ0 ⟨⟨lo,true,rfl,⟨λ_=>?_,λ_=>rfl⟩,λ_=>?_⟩,rfl⟩
     ·rw[J,D,(yJ4 a f).1 hc]
     ·rw[D,(yJ4 a f).1 hc]
    ·simp only[go_sem,zE,dEf hc];refine yQ0 ⟨⟨lo,false,rfl,⟨nofun,λh=>?_⟩,nofun⟩,rfl⟩;rw[J,D] at h;cases h;exact absurd ((yJ4 _ _).2 rfl) hc
   ·simp only[go_sem,zE,f8,f9,f10,yQi (nLi _),yQi ab];refine yQ0 ⟨⟨lo,false,rfl,⟨nofun,λh=>?_⟩,nofun⟩,rfl⟩;rw[J] at h;exact absurd (lGs h).1 ab
end Go.Proofs.Tryz
namespace Go.Iv
open Go
theorem ICall.fix1 {P:Program}{gl:Nat->Option IV}{f:FuncId}{args:List IV}{st:ISt}{K:IV->ISt->Prop}(h:ICall P gl f args st (λy st'=>K y st'\/∃g n cap cs es zs,st g=none/\y=.raw (.slice (some ⟨g,0,none⟩) n cap)/\st'=st.put g (some (.box cs)) /\
   zs.length=n/\n<=140737488355328/\n<=cap/\cap*es<=cs.length/\cs.take (n*es)=zs.flatMap IV.cells/\(∀z∈zs,z.cells.length=es)/\K (.sl ⟨true,.app g,es⟩ zs) st)) :
  ICall P gl f args st K:=by
 intro B X rs hg J hv;subst J;refine (h B X rs hg rfl hv).mono ?_;rintro e w' ⟨v,rfl,X',y,rfl,h2,U,h4,hK|⟨g,n,cap,cs,es,zs,h0,rfl,A,rfl,hn,E,D,htk,hz,hK⟩⟩
 ·exact⟨v,rfl,X',y,rfl,h2,U,h4,hK⟩
 have O:=wZb U h0 (by rw[A];exact ISt.put_same ..);have hk:=zXl h0 A;obtain rfl:=V.raw_inv h4;exact⟨_,rfl,X'.lendS _ X.st,_,rfl,h2.lendS hk,U.trans (h2.lendS_ext hk),wZa h2 h0 A (Nat.le_trans hg.B O) hn E D htk hz,hK⟩
end Go.Iv
namespace Go.Proofs.Tryz
open Go Go.Iv
set_option maxRecDepth 4000
variable (gl:Nat->Option IV)
theorem xQp (l:List Nat):(yQk l).flatMap IV.cells=yQk l:=by
 induction l with
 | nil=>rfl
 | cons a l A =>
  show IV.cells _++(yQk l).flatMap IV.cells=_;rw[A];rfl
theorem zGf (l:List Nat):∀y∈yQk l,fits false 1 y=true:=λy A=>by
 obtain⟨n,_,rfl⟩:=List.mem_map.1 A;simp[fits,IV.one]
def xY8 (l:List Nat)(st:ISt)(r:IV)(st':ISt):Prop:=(∃t,r=.sl t (yQk l)/\okEs t 1)/\st'=st
theorem xQq {f:FuncId}{args:List IV}{l:List Nat}{st:ISt}(hl:l.length<=140737488355328)
  (h:ICall prog gl f args st (λr st'=>xY8 l st r st'\/∃g cap cs,st g=none/\r=.raw (.slice (some ⟨g,0,none⟩) l.length cap)/\st'=st.put g (some (.box cs))/\l.length<=cap/\cap<=cs.length/\cs.take l.length=yQk l)):ICall prog gl f args st (xY8 l st):=by
 refine ICall.fix1 (h.mono λr st' A=>?_);rcases A with A|⟨g,cap,cs,h1,rfl,rfl,h2,J,E⟩
 ·exact .inl A
 ·exact .inr ⟨g,l.length,cap,cs,1,yQk l,h1,rfl,rfl,yQq l,hl,h2,by omega,by rw[Nat.mul_one,E,xQp],λz D=>vWp (zGf l z D),⟨_,rfl,.inr rfl⟩,rfl⟩
theorem wG8 (T:Gt gl)(a b:List Nat)(ta O:Tag)(hta:okEs ta 1)(al:okEs O 1)(hl:a.length+b.length<=1000000)(st:ISt) :
  ICall prog gl 111 [.sl ta (yQk a),.sl O (yQk b)] st (xY8 (sdN (a++b)) st):=by
 have ab:=zJf (a++b);rw[lLa] at ab;have E:catL [(ta,yQk a),(O,yQk b)]=yQk (a++b):=by simp[catL,zGg]
 have A:(catL [(ta,yQk a),(O,yQk b)]).length=(a++b).length:=by rw[E,yQq]
 refine xQq gl (by omega) ?_;refine iI func111 ?_;simp only[go_sem,zE,zA,zM,zL,reduceCtorEq,fits];refine yQj rfl ?_;refine (wKh gl [(ta,yQk a),(O,yQk b)] _ (.inr rfl) (λp hp y hy=>?_) (by rw[A,lLa];omega) _).mono ?_
 ·rcases List.mem_cons.1 hp with rfl|hp
  ·exact zGf a y hy
  ·obtain rfl:=List.mem_singleton.1 hp;exact zGf b y hy
 ·rintro _ _ (⟨t,rfl,ht,hn,rfl⟩|⟨g,cap,cs,hg,h1,h2,h3,rfl,rfl⟩)
  ·have ag:a++b=[]:=List.eq_nil_of_length_eq_zero (by rw[<- A,hn];rfl);rw[ag];simp only[go_sem,zA];refine (zX7 gl t ht _).mono ?_;rintro _ _ ⟨rfl,rfl⟩;simp only[go_sem,zE,zA];refine (zQn gl t ht _).mono ?_;rintro _ _ ⟨⟨t',rfl,aa⟩,rfl⟩;simp only[go_sem];exact yQ0 (.inl ⟨⟨t',rfl,.inl aa⟩,rfl⟩)
  ·rw[A] at h1 h3;rw[E,xQp] at h3;rw[A];have af:cs=yQk (a++b)++cs.drop (a++b).length:=by rw[<- h3,List.take_append_drop]
   have J:=xZm gl T (a++b) (cs.drop (a++b).length) g cap (st.put g (some (.box cs))) (by rw[lLa];omega) (by rw[ISt.put_same,<- af]);simp only[go_sem,zA];refine J.mono ?_;rintro _ _ ⟨rfl,m,hp,hs,rfl⟩;have hml:=hp.length_eq;have D:=zY3 gl m (cs.drop (a++b).length) (by rw[hml,lLa];omega) g cap (by rw[hml];exact h1) ((st.put g (some (.box cs))).put g (some (.box (yQk m++cs.drop (a++b).length)))) (ISt.put_same ..);rw[hml] at D;simp only[go_sem,zE,zA];refine D.mono ?_;rintro _ _ ⟨ai,rfl,rfl,ac,U,ae⟩;rw[wGm hp hs] at U ae ⊢;rw[yQ9,yQ9];simp only[go_sem];refine yQ0 (.inr ⟨g,cap,ai,hg,rfl,rfl,by omega,?_,U⟩);rw[ac,lLa,yQq,List.length_drop,hml];omega
def OwnI (st:ISt)(l:List Nat)(x:IV)(st':ISt):Prop:=(l=[]/\x=.sl ⟨true,.nil,0⟩ []/\st'=st) \/
 ∃g cap cs,l≠[]/\st g=none/\l.length<=cap/\cap<=cs.length/\cs.take l.length=yQk l/\x=.raw (.slice (some ⟨g,0,none⟩) l.length cap)/\st'=st.put g (some (.box cs))
theorem wUw {st:ISt}{g A:Nat}{o o':Option IObj}(D:st g=none):((st.put g o).put g none).put A o'=st.put A o':=by
 funext c;simp only[ISt.put_apply];split
 ·rfl
 ·split
  ·subst_vars;exact D.symm
  ·rfl
theorem wVf {st:ISt}{g A:Nat}{o:Option IObj}(D:st g=none)(h:A=g\/(st.put g o) A=none):st A=none:=by
 rcases h with rfl|h
 ·exact D
 ·rw[ISt.put_apply] at h;split at h
  ·rename_i E;rw[E];exact D
  ·exact h
abbrev spI (ca:Nat)(tw:Tag)(xw:List IV)(m:Nat):IV:=.cptr (.agg [.raw (.int .u8 (ca:Int)),.sl tw xw,.raw (.map (some m))])
theorem xQ8 (T:Gt gl)(ca m:Nat)(W:List Fm)(tw:Tag)(xw:List IV)(htw:okEs tw 4)(hxw:IsFms W xw)(hW:Srt W)(aL:W.length<=1000000)(l:List Fm)(tg:Tag)(xs:List IV)(ai:okEs tg 4)(hx:IsFms l xs)(hl:l.length<=1000000)(an:∀f∈l,f∈W)(st:ISt) :
  ICall prog gl 70 [spI ca tw xw m,.sl tg xs] st (xY8 (zJt W l) st):=by
 have aH:(zJt W l).length<=l.length:=by
  have:=zJf (l.map (noW W))
  rwa [List.length_map] at this
 refine xQq gl (by omega) ?_;refine ICall.intro (c:=cf prog gl [29] []) func70 rfl (by show _<=35;simp) (by kernel_rfl) ?_;simp only[go_sem,zE,hx.len];intro _;refine LoopC.ctr l.length (λk fr st' ds=>(∃x,fr 5=.iv x/\OwnI st ((l.take k).map (noW W)) x st')/\fr 0=.iv (spI ca tw xw m)/\fr 10=.iv (.sl tg xs)/\fr 11=.iv (.raw (.int .i64 l.length))/\fr 12=.iv (.raw (.int .i64 (k:Int)))/\ds=[]) ?_ ?_ ?_
 ·simp only[go_sem,zE,reduceCtorEq];exact⟨⟨_,rfl,.inl ⟨rfl,rfl,rfl⟩⟩,rfl⟩
 ·rintro k fr ah _ D ⟨⟨x,f5,A⟩,f0,f10,f11,f12,rfl⟩;obtain⟨a,ha⟩:=yQ1 D;obtain⟨y,al,aa⟩:=hx.get ha;have aw:=an a (lMg ha);have U:=λst=>kQk gl W tw xw htw hxw hW (by omega) a y aa st;obtain⟨y1,y2,y3,y4,y5,y6,rfl⟩:=aa.agg;simp only[go_sem,zE,zB,zA,zL,reduceCtorEq,f0,f10,f11,f12,lt_i D,yQ3 ai,iNn,al,fits];refine (U _).mono ?_;rintro _ aF ⟨⟨i,b,rfl,av,au⟩,rfl⟩;obtain rfl:b=true:=av.2 aw;have hi:=vKg hW (au rfl);have htk:(l.take (k+1)).map (noW W)=(l.take k).map (noW W)++[i]:=by rw[yQ7 ha,List.map_append,<- hi];rfl
  have aJ:((l.take k).map (noW W)).length=k:=by rw[List.length_map,List.length_take];omega
  rcases A with⟨h0,rfl,rfl⟩|⟨g,cap,cs,h0,E,h1,h2,h3,rfl,rfl⟩
  ·simp only[go_sem,zE,zA,zM,zL,f5,fits,yQ4];intro g cap;refine yQ8 λE=>?_;obtain⟨E,ac⟩:=E;simp only[go_sem,zE,reduceCtorEq,f0,f10,f11,f12,yQc D (show l.length<=281474976710656 by omega)];refine⟨_,rfl,.inr ⟨g,cap,_,?_,E,?_,?_,?_,?_,rfl⟩⟩
   ·rw[htk];simp
   ·rw[htk,h0];exact ac
   ·rw[lLa,List.length_replicate];show cap<=1+(cap-1)*1;omega
   ·rw[htk,h0];rfl
   ·rw[htk,h0];rfl
  ·simp only[go_sem,zE,zA,zM,zL,f5,fits,yQ4];refine yX3 _ _ _ (ISt.put_same ..) (by simp[fits,IV.one]) ⟨by show (_+1)*8<=_;omega,by show _+1<=_;omega⟩ ⟨h1,by simpa using h2⟩ (by simp[IV.cells]) ?_;intro g' ae cs' ao q1 q2 q3;simp only[Nat.mul_one] at q2 q3;rw[wUw E];simp only[go_sem,zE,reduceCtorEq,f0,f10,f11,f12,yQc D (show l.length<=281474976710656 by omega)];refine⟨_,rfl,.inr ⟨g',ae,cs',?_,wVf E ao,?_,q2,?_,?_,rfl⟩⟩
   ·rw[htk];simp
   ·rw[htk,lLa];exact q1
   ·rw[htk,lLa,zGg,<- h3];exact q3
   ·rw[htk,lLa];rfl
 ·rintro fr ah _ ⟨⟨x,f5,A⟩,f0,f10,f11,f12,rfl⟩;rw[lTl] at A;rcases A with⟨h0,rfl,rfl⟩|⟨g,cap,cs,h0,E,h1,h2,h3,rfl,rfl⟩
  ·have hn:zJt W l=[]:=by unfold zJt;rw[h0];rfl
   rw[hn];simp only[go_sem,zE,zA,f5,f11,f12,yQi (nLi _)];refine (zX7 gl _ rfl _).mono ?_;rintro _ _ ⟨rfl,rfl⟩;simp only[go_sem,zE,zA,f5];refine (zQn gl _ rfl _).mono ?_;rintro _ _ ⟨⟨t',rfl,aj⟩,rfl⟩;simp only[go_sem];exact yQ0 (.inl ⟨⟨t',rfl,.inl aj⟩,rfl⟩)
  ·have aC:(l.map (noW W)).length=l.length:=List.length_map ..;have aq:cs=yQk (l.map (noW W))++cs.drop (l.map (noW W)).length:=by rw[<- h3,List.take_append_drop]
   have O:=xZm gl T (l.map (noW W)) (cs.drop (l.map (noW W)).length) g cap (st.put g (some (.box cs))) (by omega) (by rw[ISt.put_same,<- aq]);simp only[go_sem,zE,zA,f5,f11,f12,yQi (nLi _)];refine O.mono ?_;rintro _ _ ⟨rfl,q,hp,hs,rfl⟩;have hml:=hp.length_eq;have J:=zY3 gl q (cs.drop (l.map (noW W)).length) (by omega) g cap (by omega) ((st.put g (some (.box cs))).put g (some (.box (yQk q++cs.drop (l.map (noW W)).length)))) (ISt.put_same ..);rw[hml] at J;simp only[go_sem,zE,zA,f5];refine J.mono ?_;rintro _ _ ⟨az,rfl,rfl,ak,ab,am⟩;rw[wGm hp hs] at ab am ⊢;rw[yQ9,yQ9];simp only[go_sem];refine yQ0 (.inr ⟨g,cap,az,E,rfl,rfl,?_,?_,ab⟩)
   ·change (sdN (l.map (noW W))).length<=cap;omega
   ·rw[ak,lLa,yQq,List.length_drop,hml];omega
def IsLn (ln:Ln)(x:IV):Prop:=∃t1 t2,x=.agg [.sl t1 (yQk ln.1),.sl t2 (yQk ln.2)]/\okEs t1 1/\okEs t2 1
theorem xVm (T:Gt gl)(ca m:Nat)(W:List Fm)(tw:Tag)(xw:List IV)(htw:okEs tw 4)(hxw:IsFms W xw)(E:Srt W)(D:W.length<=1000000)(s:Sq)(x:IV)(hx:IsSq s x)(hl:s.l.length<=1000000/\s.r.length<=1000000)(A:InW W (s.l,s.r))(st:ISt) :
  ICall prog gl 39 [spI ca tw xw m,x] st (λr st'=>IsLn (zG9 W (s.l,s.r)) r/\st'=st):=by
 obtain⟨t1,O,t2,J,rfl,e1,i1,e2,i2⟩:=hx;have h1:=λst=>xQ8 gl T ca m W tw xw htw hxw E D s.l t1 O e1 i1 hl.1 A.1 st;have h2:=λst=>xQ8 gl T ca m W tw xw htw hxw E D s.r t2 J e2 i2 hl.2 A.2 st;refine ICall.intro (c:=cf prog gl [] [(1,[0,1,2,4,5,6,3,7,8,9])]) func39 rfl (by show _<=14;simp) (by kernel_rfl) ?_;simp only[go_sem,zE,zA,reduceCtorEq];refine (h1 _).mono ?_;rintro _ _ ⟨⟨t3,rfl,e3⟩,rfl⟩;simp only[go_sem,zE,zA];refine (h2 _).mono ?_;rintro _ _ ⟨⟨t4,rfl,U⟩,rfl⟩;simp only[go_sem,zE,zA,zL,fits];exact yQ0 ⟨⟨t3,t4,rfl,e3,U⟩,rfl⟩
noncomputable def yXb (l:List Fm):List Fm×Nat:=if l.all Fm.right then (setF (l.map zJu),0) else ([],2)
theorem zX8 (D:FuncId)(t:Tag)(ht:t.cap=.nil)(st:ISt):ICall prog gl 92 [.sl t [],.fn (.func D) [] []] st (λr st'=>(∃A,r=.sl A []/\A.cap=.nil)/\st'=st):=by
 obtain⟨E,c,es⟩:=t;obtain rfl:c=.nil:=ht;refine ICall.intro (c:=cf prog gl [22,27,42,47] []) func92 rfl (by show _<=66;simp) (by kernel_rfl) ?_;simp only[go_sem,zL,reduceCtorEq,show decide (((0:Nat):Int)<2)=true from rfl];exact yQ0 ⟨⟨_,rfl,rfl⟩,rfl⟩
theorem wWn {l:List IV}(h:∀x∈l,dfr x):dfrs l:=by
 induction l with
 | nil=>trivial
 | cons x l A=>exact⟨h x (by simp),A λy D=>h y (by simp[D])⟩
theorem wV1 {l m:List Fm}(hp:m.Perm l)(h:m.Pairwise (λx y=>¬ yZ6 y x<0))(hl:0<l.length):0<(setF l).length:=by
 rw[yVs (xWp _ m hp h)];have:=hp.length_eq
 match m,this with
 | [],e=>simp at e;omega
 | a::m,_=>simp[dd]
theorem xQ1 (G:Gl gl)(T:Gt gl)(l:List Fm)(tg:Tag)(xs:List IV)(aL:okEs tg 4)(hx:IsFms l xs)(hs:fitL l)(ba:l.length<=1099511627776)(st:ISt) :
  ICall prog gl 53 [.sl tg xs] st (λr st'=>(∃t ys,r=.tup [.sl t ys,.raw (.int .i64 (yXb l).2)]/\okEs t 4/\appT (yXb l).1.length t/\IsFmsD (yXb l).1 ys)/\st'=st):=by
 refine ICall.fixN (ICall.mono (K:=λy st'=>(l.all Fm.right=false/\y=.tup [.sl ⟨true,.nil,0⟩ [],.raw (.int .i64 2)]/\st'=st)\/(l=[]/\(∃t,y=.tup [.sl t [],.raw (.int .i64 0)]/\t.cap=.nil)/\st'=st) \/
   (l.all Fm.right=true/\∃g cap k cs zs,st g=none/\k<=cap/\cap*4<=cs.length/\cs.take (k*4)=zs.flatMap IV.cells/\0<k/\IsFmsD (setF (l.map zJu)) zs/\zs.length=k/\k<=l.length/\y=.tup [.raw (.slice (some ⟨g,0,none⟩) k cap),.raw (.int .i64 0)]/\st'=st.put g (some (.box cs)))) ?_ ?_)
 ·refine ICall.intro (c:=cf prog gl [26] []) func53 rfl (by show _<=32;simp) (by kernel_rfl) ?_;simp only[go_sem,reduceCtorEq,hx.len];intro _;refine LoopC.ctr l.length (λk fr st' ds=>(l.take k).all Fm.right=true/\((k=0/\fr 4=.iv (.sl ⟨true,.nil,0⟩ [])/\st'=st)\/(0<k/\∃g cap cs zs,st g=none/\k<=cap/\cap*4<=cs.length/\cs.take (k*4)=zs.flatMap IV.cells/\IsFmsD ((l.take k).map zJu) zs/\zs.length=k/\fr 4=.iv (.raw (.slice (some ⟨g,0,none⟩) k cap))/\st'=st.put g (some (.box cs)))) /\
   fr 9=.iv (.sl tg xs)/\fr 10=.iv (.raw (.int .i64 l.length))/\fr 11=.iv (.raw (.int .i64 k))/\ds=[]) ?_ ?_ ?_
  ·simp only[go_sem,zE,zM];rfl
  ·rintro k fr ac _ ao ⟨J,aa,f9,f10,f11,rfl⟩;obtain⟨a,ha⟩:=yQ1 ao;obtain⟨y,aT,aw⟩:=hx.get ha;have aB:=lMg ha;have aq:=wY8 gl G T a y aw (hs a aB) ac;obtain⟨y1,y2,y3,y4,y5,y6,rfl⟩:=aw.agg;simp only[go_sem,zE,zB,zA,zL,reduceCtorEq,f9,f10,f11,lt_i ao,yQ3 aL,iNn,aT,fits];refine aq.mono ?_;rintro _ ac ⟨y',rfl,al,rfl⟩;have E:=al.1;unfold yV6 at E;cases hr:a.right
   ·rw[hr] at E;simp only[bFt,if_false] at E;obtain⟨z1,z2,z3,z4,z5,z6,rfl⟩:=E.agg;unfold yV6;rw[hr];simp only[bFt,if_false];simp only[go_sem,zE,zA,zL,show decide (((2:Nat):Int)=0)=false from rfl];have ay:subSt st ac:=by
     rcases aa with⟨_,_,h⟩|⟨_,g,cap,cs,zs,O,_,_,_,_,_,_,h⟩
     ·rw[h];exact subSt.refl _
     ·rw[h];exact yQa O
    exact yQf ay (.inl ⟨List.all_eq_false.2 ⟨a,aB,by simp[hr]⟩,rfl,rfl⟩)
   ·rw[hr] at E;simp only[if_true] at E;rw[show (yV6 a).1=zJu a by unfold yV6;rw[hr];simp] at al;have ax:=al;obtain⟨z1,z2,z3,z4,z5,z6,rfl⟩:=E.agg;unfold yV6;rw[hr];simp only[if_true];have ab:(l.take (k+1)).all Fm.right=true:=by
     rw[yQ7 ha,List.all_append,J];simp[hr]
    rcases aa with⟨rfl,f4,rfl⟩|⟨ag,g,cap,cs,zs,O,h1,h2,h3,hz,D,f4,rfl⟩
    ·simp only[go_sem,zE,zA,zM,zL,show decide (((0:Nat):Int)=0)=true from rfl,fits,f4,yQ4];intro g cap;refine yQ8 λO=>?_;obtain⟨O,aA⟩:=O;simp only[go_sem,zE,f9,f10,f11,show IntKind.i64.wrap (((0:Nat):Int)+1)=((1:Nat):Int) from rfl];have aS:(l.take 1).map zJu=[zJu a]:=by
      have:=yQ7 ha;simp only[Nat.zero_add,List.take_zero,List.nil_append] at this;rw[this];rfl
     refine⟨by simpa using ab,.inr ⟨by omega,g,cap,_,[.agg [.raw (.int .u8 z1),.raw (.string z2),.sl z3 z4,.sl z5 z6]],O,aA,?_,?_,by rw[aS];exact IsFmsD.one ax,rfl,rfl,rfl⟩⟩
     ·simp[IV.cells];omega
     ·simp[IV.cells]
    ·simp only[go_sem,zE,zA,zM,zL,show decide (((0:Nat):Int)=0)=true from rfl,fits,f4,yQ4];have bh:k<=1099511627776:=by omega
     refine yX3 _ _ _ (ISt.put_same ..) (by simp[fits,IV.one]) ⟨by show (_+1)*72<=_;omega,by show _+1<=_;omega⟩ ⟨h1,h2⟩ (by simp[IV.cells]) ?_;intro g' aC cs' aW q1 q2 q3;have az:((st.put g (some (.box cs))).put g none).put g' (some (.box cs'))=st.put g' (some (.box cs')):=by
      funext c;simp only[ISt.put_apply];split
      ·rfl
      ·split
       ·subst_vars;exact O.symm
       ·rfl
     have aV:st g'=none:=by
      rcases aW with rfl|h
      ·exact O
      ·rw[ISt.put_apply] at h;split at h
       ·cases h
       ·exact h
     simp only[go_sem,zE,f9,f10,f11,yQc ao (show l.length<=281474976710656 by omega)];refine⟨ab,.inr ⟨by omega,g',aC,cs',zs++[.agg [.raw (.int .u8 z1),.raw (.string z2),.sl z3 z4,.sl z5 z6]],aV,q1,q2,?_,?_,by simp[D],rfl,az⟩⟩
     ·rw[List.flatMap_append,<- h3];exact q3
     ·rw[yQ7 ha,List.map_append];exact hz.append (IsFmsD.one ax)
  ·rintro fr ac _ ⟨J,aa,f9,f10,f11,rfl⟩;rw[lTl] at J aa;rcases aa with⟨h0,f4,rfl⟩|⟨ag,g,cap,cs,zs,O,h1,h2,h3,hz,D,f4,rfl⟩
   ·simp only[go_sem,zE,zA,f4,f10,f11,yQi (nLi _)];refine (xZl gl _ rfl _).mono ?_;rintro _ _ ⟨rfl,rfl⟩;simp only[go_sem,zE,zA,f4];refine (zX8 gl _ _ rfl _).mono ?_;rintro _ _ ⟨⟨t',rfl,aN⟩,rfl⟩;simp only[go_sem,zE];exact yQ0 (.inr (.inl ⟨List.eq_nil_of_length_eq_zero h0,⟨t',rfl,aN⟩,rfl⟩))
   ·have aY:cs=zs.flatMap IV.cells++cs.drop (l.length*4):=by rw[<- h3,List.take_append_drop]
    have a8:=hz.len;have U:=wGy gl (l.map zJu) zs (cs.drop (l.length*4)) hz.1 (by rintro rfl;simp at D;omega) (by omega) g cap (st.put g (some (.box cs))) (by rw[ISt.put_same,<- aY]);rw[D] at U;simp only[go_sem,zE,zA,f4,f10,f11,yQi (nLi _)];refine U.mono ?_;rintro _ _ ⟨rfl,m,ys,hm,A,an,aJ,rfl⟩;have hml:m.length=l.length:=by rw[A.length_eq,List.length_map]
    have aj:=xZq gl 93 (by kernel_rfl) (wUq gl) m ys (cs.drop (l.length*4)) hm (by omega) g cap (by omega) ((st.put g (some (.box cs))).put g (some (.box (ys.flatMap IV.cells++cs.drop (l.length*4))))) (ISt.put_same ..);rw[hml] at aj;simp only[go_sem,zE,zA,f4];refine aj.mono ?_;rintro _ _ ⟨k,a7,aE,rfl,rfl,aQ,aM,av,ai,aU,au⟩;rw[yQ9,yQ9];simp only[go_sem,zE];have aK:(ys.flatMap IV.cells).length=l.length*4:=by rw[yQn _ λy hy=>wXz (yVj hm y hy),hm.len,hml]
    rw[lLa,aK,List.length_drop] at aQ;exact yQ0 (.inr (.inr ⟨J,g,cap,k,a7,aE,O,by omega,by omega,aM,by
     have h1:=wV1 A an (by rw[List.length_map];exact ag);rw[yVs (xWp _ m A an),<- av.len,ai] at h1;exact h1,by rw[yVs (xWp _ m A an)];exact⟨av,wWn λz ak=>xWn hz.2 (aJ z (au z ak))⟩,ai,aU,rfl,rfl⟩))
 ·rintro y st' (⟨ha,rfl,rfl⟩|⟨rfl,⟨t,rfl,ht⟩,rfl⟩|⟨ha,g,cap,k,cs,zs,O,a1,aZ,aX,ag,hz,D,bg,rfl,rfl⟩)
  ·have hn:yXb l=([],2):=by unfold yXb;rw[ha];rfl
   exact .inl ⟨⟨_,_,by rw[hn];rfl,.inl rfl,.inl rfl,by rw[hn];exact IsFmsD.nil⟩,rfl⟩
  ·have hn:yXb []=([],0):=by unfold yXb;simp only[List.all_nil,if_true,List.map_nil,xKw]
   exact .inl ⟨⟨_,_,by rw[hn];rfl,.inl ht,.inl ht,by rw[hn];exact IsFmsD.nil⟩,rfl⟩
  ·have hn:yXb l=(setF (l.map zJu),0):=by unfold yXb;rw[ha];rfl
   exact .inr ⟨g,k,cap,cs,4,zs,_,O,rfl,rfl,D,by omega,a1,aZ,aX,λz ak=>wXz (yVj hz.1 z ak),⟨_,_,by rw[hn];rfl,.inr rfl,.inr ⟨by rw[hn];simp only;rw[<- hz.len,D];exact ag,rfl,g,rfl⟩,by rw[hn];exact hz⟩,rfl⟩
noncomputable def SetS (s:Sq):Sq×Nat :=
 if (yXb s.l).2≠0 then (⟨[],[]⟩,(yXb s.l).2) else if (yXb s.r).2≠0 then (⟨[],[]⟩,(yXb s.r).2) else (⟨(yXb s.l).1,(yXb s.r).1⟩,0)
theorem kQb (G:Gl gl)(T:Gt gl)(s:Sq)(x:IV)(hx:IsSq s x)(hs:yXx s)(hl:s.l.length<=1099511627776/\s.r.length<=1099511627776)(st:ISt) :
  ICall prog gl 26 [x] st (λr st'=>(∃y,r=.tup [y,.raw (.int .i64 (SetS s).2)]/\IsSqD (SetS s).1 y)/\st'=st):=by
 obtain⟨t1,J,t2,E,rfl,e1,i1,e2,i2⟩:=hx;have h1:=λst=>xQ1 gl G T s.l t1 J e1 i1 hs.1 hl.1 st;have h2:=λst=>xQ1 gl G T s.r t2 E e2 i2 hs.2 hl.2 st;unfold SetS;refine iI func26 ?_;simp only[go_sem,zE,zA];refine (h1 _).mono ?_;rintro _ st ⟨⟨t3,y1,rfl,e3,a3,U⟩,rfl⟩;by_cases D:(yXb s.l).2=0
 ·rw[if_neg (by omega)];simp only[go_sem,zE,zA,D,show decide (((0:Nat):Int)=0)=true from rfl];refine (h2 _).mono ?_;rintro _ st ⟨⟨t4,y2,rfl,e4,a4,O⟩,rfl⟩;by_cases A:(yXb s.r).2=0
  ·rw[if_neg (by omega)];simp only[go_sem,zE,zA,zL,A,show decide (((0:Nat):Int)=0)=true from rfl,fits];exact yQ0 ⟨⟨_,rfl,_,_,_,_,rfl,e3,a3,U,e4,a4,O⟩,rfl⟩
  ·rw[if_pos A];simp only[go_sem,zE,zA,zL,show decide ((((yXb s.r).2:Nat):Int)=0)=false from dEf (by omega)];exact yQ0 ⟨⟨_,rfl,_,_,_,_,rfl,.inl rfl,.inl rfl,IsFmsD.nil,.inl rfl,.inl rfl,IsFmsD.nil⟩,rfl⟩
 ·rw[if_pos D];simp only[go_sem,zE,zA,zL,show decide ((((yXb s.l).2:Nat):Int)=0)=false from dEf (by omega)];exact yQ0 ⟨⟨_,rfl,_,_,_,_,rfl,.inl rfl,.inl rfl,IsFmsD.nil,.inl rfl,.inl rfl,IsFmsD.nil⟩,rfl⟩
theorem kQc (G:Gl gl)(T:Gt gl)(s:Sq)(x:IV)(hx:IsSq s x)(hs:yXx s)(hl:s.l.length<=1099511627776/\s.r.length<=1099511627776)(st:ISt) :
  ICall prog gl 26 [x] st (λr st'=>(∃y,r=.tup [y,.raw (.int .i64 (SetS s).2)]/\IsSq (SetS s).1 y)/\st'=st) :=
 (kQb gl G T s x hx hs hl st).mono λr st' ⟨⟨y,h1,h2⟩,A⟩=>⟨⟨y,h1,h2.w⟩,A⟩
noncomputable def zX9 (ca rule:Nat)(A:Fm)(term:Tm)(name:ByteArray):List Sq×Nat :=
 if !yJ8 ca then ([],2) else match rowS ca rule with
  | none=>([],191)
  | some r=>yKd ca rule r A term name
theorem vZw (G:Gl gl)(T:Gt gl)(ca rule:Nat)(A:Fm)(y:IV)(hy:IsFm A y)(hm:A.size<=1000000)(term:Tm)(z:IV)(hz:IsTm term z)(ht:term.size<=1000000)(name:ByteArray)(st:ISt) :
  ICall prog gl 110 [.raw (.int .u8 ca),.raw (.int .u8 rule),y,z,.raw (.string name)] st (AdRD st (zX9 ca rule A term name)):=by
 have hA:=λr E st=>wGv gl G T ca rule r E A y hy hm term z hz ht name st;have O:=λst=>xJb gl ca st;obtain⟨o3,n3,t3,x3,t4,x4,rfl⟩:=hy.agg;obtain⟨v,un,tz,xz,rfl⟩:=wUd hz;unfold zX9;refine iI func110 ?_;simp only[go_sem,zE,zA,reduceCtorEq];refine (O _).mono ?_;rintro _ st ⟨rfl,rfl⟩;cases hk:yJ8 ca
 ·simp only[go_sem,zE];exact yQ0 ⟨_,_,rfl,.inl rfl,.inl rfl,rfl,rfl⟩
 simp only[go_sem,zA,reduceCtorEq];refine (wQl gl ca _).mono ?_;rintro _ _ ⟨b,hb,rfl,rfl⟩;cases E:rowS ca rule with
 | none =>
  simp only[go_sem,zE,zA,zL,ISt.put_same,yWk,E,Option.map_none,yW5];exact yQf (yQa hb) ⟨_,_,rfl,.inl rfl,.inl rfl,rfl,rfl⟩
 | some r =>
  have D:=hA r E;obtain⟨rl,rr,op,asks⟩:=r;simp only[go_sem,zE,zA,zL,reduceCtorEq,ISt.put_same,yWk,E,Option.map_some,yG9,rwI];refine (D _).mono ?_;rintro _ _ ⟨tg,xs,rfl,he,U,J,rfl⟩;simp only[go_sem,zE];exact yQf (yQa hb) ⟨_,_,rfl,he,U,J,rfl⟩
theorem vZx (G:Gl gl)(T:Gt gl)(ca rule:Nat)(A:Fm)(y:IV)(E:IsFm A y)(J:A.size<=1000000)(term:Tm)(z:IV)(D:IsTm term z)(ht:term.size<=1000000)(name:ByteArray)(st:ISt) :
  ICall prog gl 110 [.raw (.int .u8 ca),.raw (.int .u8 rule),y,z,.raw (.string name)] st (AdR st (zX9 ca rule A term name)) :=
 (vZw gl G T ca rule A y E J term z D ht name st).mono AdRD.w
end Go.Proofs.Tryz
namespace Go.Proofs.Tryz
open Go Go.Iv
theorem vK9 {ca:Nat}(hc:ca≠3)(f:Fm):f.ok=true->opsB ca f=true->PF f:=by
 refine xWf (p:=λf=>f.ok=true->opsB ca f=true->PF f) (λo n us sub ih h1 h2=>?_) f;simp only[Fm.ok,bAt] at h1;obtain⟨⟨A,_⟩,aa⟩:=h1;simp only[opsB,bAt,Bool.or_eq_true,dTe,if_neg hc] at h2;obtain⟨⟨⟨af,ae⟩,E⟩,J⟩:=h2;have E:us=[]:=List.isEmpty_iff.1 (E.resolve_left hc);subst E;have D:∀a∈sub,PF a:=by
  have key:∀l:List Fm,(∀a∈l,a∈sub)->yY5 l=true->yW4 ca l=true->∀a∈l,PF a:=λl=>by
   induction l with
   | nil=>intro _ _ _ a O;cases O
   | cons b l U =>
    intro hm h1 h2 a O;simp only[yY5,yW4,bAt] at h1 h2;rcases List.mem_cons.1 O with rfl|O
    ·exact ih a (hm a (.head _)) h1.1 h2.1
    ·exact U (λx hx=>hm x (.tail _ hx)) h1.2 h2.2 a O
  exact key sub (λ_ h=>h) aa J
 have ho:o=1\/o=2\/o=3\/o=4\/o=5\/o=6\/o=7:=by omega
 rcases ho with rfl|rfl|rfl|rfl|rfl|rfl|rfl<;>simp only[yJu,bAt,dTe] at A
 ·obtain rfl:sub=[]:=List.eq_nil_of_length_eq_zero A.2;exact .atom n
 ·obtain rfl:sub=[]:=List.eq_nil_of_length_eq_zero A.2;rw[A.1.1];exact .fls
 ·match sub,A.2 with
  | [a],_=>rw[A.1.1];exact .neg (D a (.head _))
 all_goals
  match sub,A.2 with
  | [a,b],_=>rw[A.1.1];exact .bin (by omega) (by omega) (D a (.head _)) (D b (.tail _ (.head _)))
theorem zJn {ca:Nat}(hc:ca≠3){f:Fm}(h:fmB ca f=true):PF f:=by
 unfold fmB Fm.right at h;simp only[bAt] at h;exact vK9 hc f h.1.1.1 h.2
theorem wXv {ca:Nat}{n:ByteArray}{us:List Tm}{a:Fm}(h:fmB ca (.mk 3 n us [a])=true):fmB ca a=true:=by
 unfold fmB Fm.right at *;simp only[bAt,dTe,Fm.ok,yY5,opsB,yW4,Fm.size,yQe,Fm.deep,yZ2] at *;obtain⟨⟨⟨⟨_,J,_⟩,D⟩,A⟩,_,E,_⟩:=h;have D:=of_decide_eq_true D;have A:=of_decide_eq_true A;exact⟨⟨⟨J,by omega⟩,by omega⟩,E⟩
theorem wXw {ca o:Nat}(ho:o≠3/\4<=o/\o<=7){n:ByteArray}{us:List Tm}{a b:Fm}(h:fmB ca (.mk o n us [a,b])=true):fmB ca a=true/\fmB ca b=true/\fmB ca (imF a b)=true/\fmB ca (imF b a)=true:=by
 have key:∀k,yJu k noN 0 2=true↔k=4\/k=5\/k=6\/k=7\/k=14:=λk=>by
  unfold yJu;split<;>simp_all
 unfold fmB Fm.right at *;simp only[bAt,dTe,Fm.ok,yY5,opsB,yW4,Fm.size,yQe,Fm.deep,yZ2,yYi,yQh,yQr,List.length_cons,List.length_nil,Nat.zero_add,Nat.reduceAdd,List.isEmpty_nil,Bool.or_true] at *;have h6:yJu 6 noN 0 2=true:=(key 6).2 (by omega);obtain⟨⟨⟨⟨⟨_,_⟩,O,J,_⟩,k3⟩,U⟩,⟨⟨k5,k6⟩,k7⟩,E,D,_⟩:=h;have A:6<=(if ca=3 then 9 else 7):=by split<;>omega
 have k3:=of_decide_eq_true k3;have U:=of_decide_eq_true U;exact⟨⟨⟨⟨O,by omega⟩,by omega⟩,E⟩,⟨⟨⟨J,by omega⟩,by omega⟩,D⟩,⟨⟨⟨⟨⟨h6,trivial⟩,O,J,trivial⟩,by omega⟩,dEt (by omega)⟩,⟨⟨by omega,A⟩,trivial⟩,E,D,trivial⟩,⟨⟨⟨⟨⟨h6,trivial⟩,J,O,trivial⟩,by omega⟩,dEt (by omega)⟩,⟨⟨by omega,A⟩,trivial⟩,D,E,trivial⟩⟩
def yK3 (j:Bool)(op:Nat)(r:Bool):List Nat :=
 if op=3 then (if r=true then [4] else [3]) else if op=4 then (if r=true then [6] else [5])
 else if op=5 then (if r=true then (if j=true then [8,18] else [8]) else [7]) else if op=6 then (if r=true then [10] else [9])
 else if op=7 then (if r=true then [12] else [11]) else []
abbrev calJ (ca:Nat):Bool:=decide (ca=2)
abbrev tmZ:Tm:=.mk false noN []
def sqOf (p:Sn):Sq:=⟨p.1,p.2⟩
theorem yGn {ca:Nat}{f:Fm}(A:PF f)(r:Bool):(addF (calJ ca) f r).map (·.1)=yK3 (calJ ca) f.op r:=by
 cases A with
 | atom n=>simp[addF,yK3,Fm.op]
 | fls=>simp[addF,yK3,Fm.op]
 | neg h=>cases r<;>simp[addF,yK3,Fm.op]
 | @bin o a b E D _ _ =>
  obtain rfl|rfl|rfl|rfl:o=4\/o=5\/o=6\/o=7:=by omega
  all_goals cases r<;>simp[addF,yK3,Fm.op]
  by_cases h:ca=2<;>simp[h]
theorem xZk {ca:Nat}(hc:ca=1\/ca=2){f:Fm}(h:fmB ca f=true){r:Bool}{t:Nat×List Sn}(ht:t∈addF (calJ ca) f r):zX9 ca t.1 f tmZ noN=(t.2.map sqOf,0):=by
 have D:ca≠3:=by omega
 have E:yJ8 ca=true:=by unfold yJ8;rcases hc with rfl|rfl<;>rfl
 have key:∀R:Rw,rowS ca t.1=some R->f.op=R.op->R.asks=0->zX9 ca t.1 f tmZ noN=(addS ca t.1 f ((f.subs[0]?).getD fm0) ((f.subs[1]?).getD fm0),0):=λR h1 h2 J=>by
  unfold zX9;rw[E,h1];exact xY3 h (.inr h2) |>.trans (by rw[if_pos J])
 have A:=zJn D h;cases A with
 | atom n=>simp[addF] at ht
 | fls=>simp[addF] at ht
 | neg O =>
  cases r<;>simp[addF] at ht<;>subst ht<;>rw[key _ (by unfold rowS;rcases hc with rfl|rfl<;>rfl) rfl rfl]<;>rfl
 | @bin o a b h4 U _ _ =>
  obtain rfl|rfl|rfl|rfl:o=4\/o=5\/o=6\/o=7:=by omega
  all_goals rcases hc with rfl|rfl<;>cases r<;>simp[addF,calJ] at ht
  all_goals first
   | (subst ht;rw[key _ rfl rfl rfl];rfl)
   | (rcases ht with rfl|rfl<;>(rw[key _ rfl rfl rfl];rfl))
theorem wXx {ca:Nat}(hc:ca≠3){f:Fm}(h:fmB ca f=true){j r:Bool}{t:Nat×List Sn}(ht:t∈addF j f r):∀p∈t.2,(∀g∈p.1,fmB ca g=true)/\∀g∈p.2,fmB ca g=true:=by
 have A:=zJn hc h;cases A with
 | atom n=>simp[addF] at ht
 | fls=>simp[addF] at ht
 | neg ha =>
  have:=wXv h;cases r<;>simp[addF] at ht<;>subst ht<;>simp[this]
 | @bin o a b h4 U _ _ =>
  obtain⟨E,D,O,J⟩:=wXw ⟨by omega,h4,U⟩ h;obtain rfl|rfl|rfl|rfl:o=4\/o=5\/o=6\/o=7:=by omega
  all_goals cases r<;>cases j<;>simp[addF] at ht
  all_goals first|(subst ht;simp[E,D,O,J])|(rcases ht with rfl|rfl<;>simp[E,D])
structure SpOk (ca:Nat)(W:List Fm):Prop where
 cal:ca=1\/ca=2
 srt:Srt W
 len:W.length<=1000000
 fm:∀f∈W,fmB ca f=true
 full:Full W
theorem SpOk.sub {ca:Nat}{W:List Fm}(h:SpOk ca W){f:Fm}(A:f∈W){j r:Bool}{t:Nat×List Sn}(ht:t∈addF j f r){p:Sn}(hp:p∈t.2):InW W p:=h.full f A j r t ht p hp
theorem SpOk.pf {ca:Nat}{W:List Fm}(h:SpOk ca W){f:Fm}(A:f∈W):PF f:=zJn (by have:=h.cal;omega) (h.fm f A)
theorem SpOk.size {ca:Nat}{W:List Fm}(h:SpOk ca W){f:Fm}(A:f∈W):f.size<=400:=by
 have:=h.fm f A;unfold fmB Fm.right at this;simp only[bAt,dTe] at this;exact this.1.1.2
end Go.Proofs.Tryz
namespace Go.Proofs.Tryz
open Go Go.Iv
set_option maxRecDepth 4000
variable (gl:Nat->Option IV)
def u8I (l:List Nat):List IV:=l.map λ(n:Nat)=>.raw (.int .u8 (n:Int))
theorem xGl (a b:Operand):yJx 2 [(0,a),(1,b)]=true:=rfl
theorem wKx (ca m:Nat)(tw:Tag)(xw:List IV)(op:Nat)(r:Bool)(st:ISt) :
  ICall prog gl 109 [spI ca tw xw m,.raw (.int .u8 (op:Int)),.raw (.bool r)] st (λx st'=>(∃t,x=.sl t (u8I (yK3 (calJ ca) op r))/\okEs t 1)/\st'=st):=by
 have d:∀c:Nat,decide ((op:Int)=(c:Int))=decide (op=c):=λc=>decide_eq_decide.2 (by omega);have d3:decide ((op:Int)=3)=decide (op=3):=d 3;have d4:decide ((op:Int)=4)=decide (op=4):=d 4;have d5:decide ((op:Int)=5)=decide (op=5):=d 5;have d6:decide ((op:Int)=6)=decide (op=6):=d 6;have d7:decide ((op:Int)=7)=decide (op=7):=d 7;have dc:decide ((ca:Int)=2)=calJ ca:=decide_eq_decide.2 (by omega);unfold yK3;refine iI func109 ?_;by_cases A:op=3
 ·rw[if_pos A];cases r
  ·simp only[go_sem,zE,zM,zL,reduceCtorEq,d3,dEt A,fits,yQ4];exact yQ0 ⟨⟨_,rfl,.inr rfl⟩,rfl⟩
  ·simp only[go_sem,zE,zM,zL,d3,dEt A,fits,yQ4];exact yQ0 ⟨⟨_,rfl,.inr rfl⟩,rfl⟩
 ·by_cases D:op=4
  ·rw[if_neg A,if_pos D];cases r
   ·simp only[go_sem,zE,zM,zL,reduceCtorEq,d3,d4,dEf A,dEt D,fits,yQ4];exact yQ0 ⟨⟨_,rfl,.inr rfl⟩,rfl⟩
   ·simp only[go_sem,zE,zM,zL,d3,d4,dEf A,dEt D,fits,yQ4];exact yQ0 ⟨⟨_,rfl,.inr rfl⟩,rfl⟩
  ·by_cases E:op=5
   ·rw[if_neg A,if_neg D,if_pos E];cases r
    ·simp only[go_sem,zE,zM,zL,reduceCtorEq,d3,d4,d5,dEf A,dEf D,dEt E,fits,yQ4];exact yQ0 ⟨⟨_,rfl,.inr rfl⟩,rfl⟩
    ·cases U:calJ ca
     ·simp only[go_sem,zE,zM,zL,reduceCtorEq,d3,d4,d5,dEf A,dEf D,dEt E,fits,yQ4,dc,U];exact yQ0 ⟨⟨_,rfl,.inr rfl⟩,rfl⟩
     ·simp only[go_sem,zE,zM,zL,reduceCtorEq,d3,d4,d5,dEf A,dEf D,dEt E,fits,xGl,dc,U];exact yQ0 ⟨⟨_,rfl,.inr rfl⟩,rfl⟩
   ·by_cases J:op=6
    ·rw[if_neg A,if_neg D,if_neg E,if_pos J];cases r
     ·simp only[go_sem,zE,zM,zL,reduceCtorEq,d3,d4,d5,d6,dEf A,dEf D,dEf E,dEt J,fits,yQ4];exact yQ0 ⟨⟨_,rfl,.inr rfl⟩,rfl⟩
     ·simp only[go_sem,zE,zM,zL,d3,d4,d5,d6,dEf A,dEf D,dEf E,dEt J,fits,yQ4];exact yQ0 ⟨⟨_,rfl,.inr rfl⟩,rfl⟩
    ·by_cases O:op=7
     ·rw[if_neg A,if_neg D,if_neg E,if_neg J,if_pos O];cases r
      ·simp only[go_sem,zE,zM,zL,reduceCtorEq,d3,d4,d5,d6,d7,dEf A,dEf D,dEf E,dEf J,dEt O,fits,yQ4];exact yQ0 ⟨⟨_,rfl,.inr rfl⟩,rfl⟩
      ·simp only[go_sem,zE,zM,zL,d3,d4,d5,d6,d7,dEf A,dEf D,dEf E,dEf J,dEt O,fits,yQ4];exact yQ0 ⟨⟨_,rfl,.inr rfl⟩,rfl⟩
     ·rw[if_neg A,if_neg D,if_neg E,if_neg J,if_neg O];simp only[go_sem,zE,d3,d4,d5,d6,d7,dEf A,dEf D,dEf E,dEf J,dEf O];exact yQ0 ⟨⟨_,rfl,.inl rfl⟩,rfl⟩
@[go_sem] theorem vKt:mapI prog 90=some (.pl,.sl ⟨true,.nil,0⟩ []):=by kernel_rfl
def AllR {α:Type}(R:α->IV->Prop)(l:List α)(A:List IV):Prop:=A.length=l.length/\∀(i:Nat) (a:α),l[i]?=some a->∃x,A[i]?=some x/\R a x
theorem AllR.nil {α:Type}{R:α->IV->Prop}:AllR R [] []:=⟨rfl,λi a h=>by simp at h⟩
theorem AllR.snoc {α:Type}{R:α->IV->Prop}{l:List α}{E:List IV}{a:α}{x:IV}(h:AllR R l E)(hx:R a x):AllR R (l++[a]) (E++[x]):=by
 refine⟨by simp[h.1],λi b A=>?_⟩;rcases Nat.lt_or_ge i l.length with D|D
 ·rw[List.getElem?_append_left D] at A;rw[List.getElem?_append_left (by rw[h.1];exact D)];exact h.2 i b A
 ·rw[List.getElem?_append_right D] at A;rw[List.getElem?_append_right (by rw[h.1];exact D),h.1];cases J:i-l.length with
  | zero=>rw[J] at A;cases A;exact⟨x,rfl,hx⟩
  | succ n=>rw[J] at A;simp at A
def IsEx (e:Ex)(x:IV):Prop:=∃t1 t2,x=.agg [.sl t1 (yQk e.1.1),.sl t2 (yQk e.1.2),.raw (.int .i64 (e.2.1:Int)),.raw (.int .i64 (e.2.2:Int))]/\okEs t1 1/\okEs t2 1
abbrev Tn:=Nat×List Ex
def IsTn (t:Tn)(x:IV):Prop:=∃A ys,x=.agg [.raw (.int .u8 (t.1:Int)),.sl A ys]/\okEs A 4/\AllR IsEx t.2 ys
def wYb (l:List Tn)(x:IV):Prop:=∃t ys,x=.sl t ys/\okEs t 2/\AllR IsTn l ys
noncomputable def yZs (W:List Fm)(j:Bool)(f:Fm)(r:Bool):List Tn:=(addF j f r).map λt=>(t.1,t.2.map (exW W))
def plV (i:Nat)(r:Bool):Value:=.agg #[.int .i64 (i:Int),.bool r]
def CacheOk (ca:Nat)(W:List Fm)(es:List (Value×IV)):Prop:=∀p∈es,∃i r f,p.1=plV i r/\W[i]?=some f/\wYb (yZs W (calJ ca) f r) p.2
theorem xWl {i:Nat}{r:Bool}{x:IV}:∀ {es:List (Value×IV)},yXo (plV i r) es=some x->(∀p∈es,∃(i:Nat) (r:Bool),p.1=plV i r)->(plV i r,x)∈es
 | [],h,_=>by cases h
 | (k,v)::es,h,A=>by
  obtain⟨D,r',E⟩:=A _ (.head _);simp only at E;subst E;simp only[yXo] at h;have J:yKk (plV i r) (plV D r')=(decide ((i:Int)=D)&&decide (r=r')):=rfl;rw[J] at h;by_cases hc:(i:Int)=D/\r=r'
  ·obtain⟨h1,h2⟩:=hc;obtain rfl:i=D:=by omega
   subst h2;simp at h;subst h;exact .head _
  ·rw[if_neg (by simpa using hc)] at h;exact .tail _ (xWl h λp hp=>A p (.tail _ hp))
theorem zYa {k:Value}{v:IV}:∀ {es:List (Value×IV)} {p:Value×IV},p∈updI k v es->p=(k,v)\/p∈es
 | [],p,h=>.inl (List.mem_singleton.1 h)
 | (x,u)::es,p,h=>by
  simp only[updI] at h;split at h
  ·rcases List.mem_cons.1 h with h|h
   ·exact .inl h
   ·exact .inr (.tail _ h)
  ·rcases List.mem_cons.1 h with h|h
   ·exact .inr (by rw[h];exact .head _)
   ·exact (zYa h).imp id (.tail _)
theorem CacheOk.upd {ca:Nat}{W:List Fm}{es:List (Value×IV)}(h:CacheOk ca W es){i:Nat}{r:Bool}{f:Fm}{x:IV}(A:W[i]?=some f)(hx:wYb (yZs W (calJ ca) f r) x):CacheOk ca W (updI (plV i r) x es):=λp hp=>by
 rcases zYa hp with rfl|hp
 ·exact⟨i,r,f,rfl,A,hx⟩
 ·exact h p hp
theorem xYe {st st':ISt}{m:Nat}{o:Option IObj}(h:subSt st st'):subSt (st.put m o) (st'.put m o):=λc x hc=>by
 rw[ISt.put_apply] at hc ⊢;split
 ·rename_i A;rw[if_pos A] at hc;exact hc
 ·rename_i A;rw[if_neg A] at hc;exact h c x hc
theorem xY6 {j r:Bool}{f:Fm}{t:Nat×List Sn}(h:t∈addF j f r):∀p∈t.2,p.1.length<=2/\p.2.length<=2:=by
 unfold addF at h;split at h<;>(try split at h)<;>simp at h<;>first|(subst h;simp)|(rcases h with rfl|rfl<;>simp)
theorem zU6 {j r:Bool}{f:Fm}{t:Nat×List Sn}(h:t∈addF j f r):t.2.length<=2:=by
 unfold addF at h;split at h<;>(try split at h)<;>simp at h<;>first|(subst h;simp)|(rcases h with rfl|rfl<;>simp)
theorem vVf {f:Fm}{n:Nat}{l:List IV}(h:IsFm f (.agg (.raw (.int .u8 (n:Int))::l))):n=f.op:=by
 obtain⟨o,J,us,sub⟩:=f;obtain⟨t,D,E,ys,A,_⟩:=h.mk;simp only[IV.agg.injEq,List.cons.injEq,IV.raw.injEq,Value.int.injEq,true_and] at A;exact Int.ofNat.inj A.1
theorem vJe (G:Gl gl)(T:Gt gl)(ca m:Nat)(W:List Fm)(hS:SpOk ca W)(tw:Tag)(xw:List IV)(htw:okEs tw 4)(hxw:IsFms W xw)(i:Nat)(r:Bool)(f:Fm)(hf:W[i]?=some f)(es:List (Value×IV))(ae:CacheOk ca W es)(st:ISt)(hm:st m=some (.map .pl es)) :
  ICall prog gl 73 [spI ca tw xw m,.agg [.raw (.int .i64 (i:Int)),.raw (.bool r)]] st (λx st'=>wYb (yZs W (calJ ca) f r) x/\∃es',CacheOk ca W es'/\st'=st.put m (some (.map .pl es'))):=by
 have bc:i<W.length:=(lGs hf).1;have aQ:=hS.len;have ac:=lMg hf;have aN:=hS.fm f ac;obtain⟨y,aL,hy⟩:=hxw.get hf;have aq:yQt .pl (plV i r)=true:=by
  show (decide (-9223372036854775808<=(i:Int))&&decide ((i:Int)<=9223372036854775807))=true;rw[bAt,dTe,dTe];omega
 refine ICall.intro (c:=cf prog gl [] [(14,[0,1,2,3,5,6,7,8,9,10,4,11,12,13,14,15])]) func73 rfl (by show _<=94;simp) (by kernel_rfl) ?_;have aM:∀o:Option IV,yXo (.agg #[.int .i64 (i:Int),.bool r]) es=o->∀x,o=some x->wYb (yZs W (calJ ca) f r) x:=λo ho x hx=>by
  subst hx;have ao:=xWl (i:=i) (r:=r) ho λp hp=>by obtain⟨i',r',f',h1,_⟩:=ae p hp;exact⟨i',r',h1⟩
  obtain⟨i',r',f',h1,h2,h3⟩:=ae _ ao;have h1:plV i r=plV i' r':=h1;simp only[plV,Value.agg.injEq,Array.mk.injEq,List.cons.injEq,Value.int.injEq,true_and,Value.bool.injEq,and_true] at h1;obtain⟨h4,rfl⟩:=h1;obtain rfl:i=i':=by omega
  rw[hf] at h2;cases h2;exact h3
 simp only[go_sem,zE,zA,zL,reduceCtorEq,fits,hm,show yQt .pl (.agg #[.int .i64 (i:Int),.bool r])=true from aq];cases hq:yXo (.agg #[.int .i64 (i:Int),.bool r]) es with
 | some x =>
  obtain⟨t,ys,rfl,ht,hys⟩:=aM _ hq x rfl;simp only[go_sem,zE,zXe,Option.getD_some,Option.isSome_some];exact yQ0 ⟨⟨t,ys,rfl,ht,hys⟩,es,ae,(yZm hm).symm⟩
 | none =>
  have aw:=yGn (ca:=ca) (hS.pf ac) r;have ax:(yK3 (calJ ca) f.op r).length=(addF (calJ ca) f r).length:=by rw[<- aw,List.length_map]
  have be:(addF (calJ ca) f r).length<=1000:=by
   rw[<- ax];unfold yK3
   repeat' split
   all_goals simp
  have ab:=λst=>wKx gl ca m tw xw f.op r st;have av:=λrule st=>vZx gl G T ca rule f y hy (by have:=hS.size ac;omega) tmZ (.agg [.raw (.bool false),.raw (.string noN),.sl ⟨true,.nil,0⟩ []]) (by simp only[IsTm];exact⟨_,_,rfl,.inl rfl,by simp only[IsTms]⟩) (by decide) noN st;obtain⟨y1,y2,y3,y4,y5,y6,rfl⟩:=hy.agg;obtain rfl:y1=f.op:=vVf hy;simp only[go_sem,zE,zB,zA,zL,reduceCtorEq,zXe,Option.getD_none,Option.isSome_none,fits,aL,yQ3 htw,iNn];refine (ab _).mono ?_;rintro _ st ⟨⟨tL,rfl,aE⟩,rfl⟩;simp only[go_sem,u8I,List.length_map,ax];intro _;refine LoopC.ctr (addF (calJ ca) f r).length (λk fr st' ds=>(∃t ys,fr 5=.iv (.sl t ys)/\AllR IsTn ((yZs W (calJ ca) f r).take k) ys/\own st' t k 2 st/\subSt st st')/\fr 0=.iv (spI ca tw xw m)/\fr 3=.box [.raw (.int .i64 (i:Int)),.raw (.bool r)] /\
   fr 7=.box [.raw (.int .u8 (f.op:Int)),.raw (.string y2),.sl y3 y4,.sl y5 y6]/\fr 39=.iv (.sl tL (u8I (yK3 (calJ ca) f.op r)))/\fr 40=.iv (.raw (.int .i64 (addF (calJ ca) f r).length))/\fr 41=.iv (.raw (.int .i64 (k:Int)))/\ds=[]) ?_ ?_ ?_
  ·simp only[go_sem,zE,reduceCtorEq,u8I];exact⟨⟨_,_,rfl,AllR.nil,own.nil _ _ _ _ _,subSt.refl _⟩,rfl⟩
  ·rintro k fr am _ aj ⟨⟨t,ys,f5,hys,D,A⟩,f0,f3,f7,f39,f40,f41,rfl⟩;obtain⟨E,ag⟩:=yQ1 aj;have htm:=lMg ag;have aF:(yK3 (calJ ca) f.op r)[k]?=some E.1:=by rw[<- aw,List.getElem?_map,ag];rfl
   have hu:(u8I (yK3 (calJ ca) f.op r))[k]?=some (.raw (.int .u8 (E.1:Int))):=by rw[u8I,List.getElem?_map,aF];rfl
   have aO:=xZk hS.cal aN htm;have ah:=λp hp=>hS.sub ac htm (p:=p) hp;simp only[go_sem,zE,zA,zL,reduceCtorEq,f0,f7,f39,f40,f41,lt_i aj,yQ3 aE,iNn,hu,fits];refine (av E.1 _).mono ?_;rintro _ am ⟨ta,xa,rfl,hta,af,rfl⟩;rw[aO] at af ⊢;simp only[go_sem,zE,zA,zL,show decide (((0:Nat):Int)=0)=true from rfl,fits];have hxl:xa.length=E.2.length:=by rw[af.len,List.length_map]
   have aH:=xY6 htm;have hp2:=zU6 htm;intro _;rw[hxl];refine LoopC.ctr E.2.length (λq fr st' ds=>(∃t2 zs,fr 12=.box [.raw (.int .u8 (E.1:Int)),.sl t2 zs]/\AllR IsEx ((E.2.map (exW W)).take q) zs/\own st' t2 q 4 st/\own st' t k 2 st/\subSt st st')/\fr 0=.iv (spI ca tw xw m)/\fr 3=.box [.raw (.int .i64 (i:Int)),.raw (.bool r)]/\fr 5=.iv (.sl t ys) /\
    fr 7=.box [.raw (.int .u8 (f.op:Int)),.raw (.string y2),.sl y3 y4,.sl y5 y6]/\fr 39=.iv (.sl tL (u8I (yK3 (calJ ca) f.op r)))/\fr 40=.iv (.raw (.int .i64 (addF (calJ ca) f r).length))/\fr 41=.iv (.raw (.int .i64 (k:Int))) /\
    fr 60=.iv (.sl ta xa)/\fr 61=.iv (.raw (.int .i64 E.2.length))/\fr 62=.iv (.raw (.int .i64 (q:Int)))/\ds=[]) ?_ ?_ ?_
   ·simp only[go_sem,zE,reduceCtorEq];refine⟨⟨_,_,rfl,AllR.nil,own.nil _ _ _ _ _,D,A⟩,f0,f3,f5,f7,f39,f40,f41,rfl⟩
   ·rintro q fr al _ hq ⟨⟨t2,zs,f12,hzs,U,D,A⟩,f0,f3,f5,f7,f39,f40,f41,f60,f61,f62,rfl⟩;obtain⟨p,hp⟩:=yQ1 hq;have aG:(E.2.map sqOf)[q]?=some (sqOf p):=by rw[List.getElem?_map,hp];rfl
    obtain⟨z,aB,hz⟩:=af.get aG;have a1:=aH p (lMg hp);have aK:=λst=>xVm gl T ca m W tw xw htw hxw hS.srt aQ (sqOf p) z hz ⟨by show p.1.length<=_;omega,by show p.2.length<=_;omega⟩ (ah p (lMg hp)) st;obtain⟨t3,x3,t4,x4,rfl,e3,i3,e4,i4⟩:=hz;simp only[go_sem,zE,zB,zA,zL,reduceCtorEq,f0,f12,f60,f61,f62,lt_i hq,yQ3 hta,iNn,aB,fits];refine (aK _).mono ?_;rintro _ al ⟨⟨t5,t6,rfl,e5,e6⟩,rfl⟩;simp only[go_sem,zE,zA,zM,zL,fits,i3.len,i4.len,yQ4];have aA:zs.length=q:=by rw[hzs.1,List.length_take,List.length_map];omega
    refine yZy U aA A rfl (by simp[fits,IV.one]) (by simp only;omega) (by omega) λaz ak O J aa=>?_;have ai:own ak t k 2 st:=D.mono λg hg _=>aa g _ hg λn hn=>by cases hn
    simp only[go_sem,zE,zA,zL,reduceCtorEq,f0,f3,f5,f7,f12,f39,f40,f41,f60,f61,f62,yQc hq (show E.2.length<=281474976710656 by omega)];refine⟨az,_,rfl,?_,O,ai,J⟩;rw[yQ7 (show (E.2.map (exW W))[q]?=some (exW W p) by rw[List.getElem?_map,hp];rfl)];exact hzs.snoc ⟨t5,t6,rfl,e5,e6⟩
   ·rintro fr al _ ⟨⟨t2,zs,f12,hzs,U,D,A⟩,f0,f3,f5,f7,f39,f40,f41,f60,f61,f62,rfl⟩;have aC:ys.length=k:=by
     rw[hys.1,List.length_take];unfold yZs;rw[List.length_map];omega
    simp only[go_sem,zE,zA,zM,zL,f5,f12,f61,f62,yQi (nLi _),fits,yQ4];refine yZy D aC A rfl (by simp[fits,IV.one]) (by simp only;omega) (by omega) λt' ak O J aa=>?_;simp only[go_sem,zE,reduceCtorEq,f0,f3,f7,f39,f40,f41,yQc aj (show (addF (calJ ca) f r).length<=281474976710656 by omega)];refine⟨t',_,rfl,?_,O,J⟩;unfold yZs;rw[yQ7 (show ((addF (calJ ca) f r).map λt=>(t.1,t.2.map (exW W)))[k]?=some (E.1,E.2.map (exW W)) by rw[List.getElem?_map,ag];rfl)];refine hys.snoc ⟨t2,zs,rfl,U.es,?_⟩;rw[show E.2.length=(E.2.map (exW W)).length from (List.length_map ..).symm,lTl] at hzs;exact hzs
  ·rintro fr am _ ⟨⟨t,ys,f5,hys,D,A⟩,f0,f3,f7,f39,f40,f41,rfl⟩;have aI:=A m _ hm;rw[show (addF (calJ ca) f r).length=(yZs W (calJ ca) f r).length from (List.length_map ..).symm,lTl] at hys;simp only[go_sem,zE,zA,zL,reduceCtorEq,f0,f3,f5,f40,f41,yQi (nLi _),aI,show yQt .pl (.agg #[.int .i64 (i:Int),.bool r])=true from aq,fits];exact yQf (xYe A) ⟨⟨t,ys,rfl,D.es,hys⟩,_,ae.upd hf ⟨t,ys,rfl,D.es,hys⟩,rfl⟩
end Go.Proofs.Tryz
namespace Go.Iv
open Go
theorem wW2 {st:ISt}{b:Nat}{cs:List IV}(h:st b=some (.box cs)):LendOk st (ISt.put (λ_=>none) b (some (.box cs))) (st.put b none):=by
 refine⟨λc o hc=>?_,λc o hc=>?_,λc cs' hc=>?_⟩
 ·rw[ISt.put_apply] at hc;split at hc
  ·rename_i A;rw[A,h];exact hc
  ·cases hc
 ·rw[ISt.put_apply] at hc;split at hc
  ·cases hc
  ·exact hc
 ·rw[ISt.put_apply] at hc ⊢;split at hc
  ·rename_i A;rw[if_pos A]
  ·cases hc
end Go.Iv
namespace Go.Iv
open Go
def vcF (c:Cf)(t:Nat):Nat->Code->Kc->Fr->ISt->List Dfd->Prop
 | 0,A,Q,fr,st,ds=>∃b y,fr t=.iv (.raw (.pointer (some ⟨b,0,none⟩)))/\st b=some (.box y.cells)/\vcC c A Q (fr.put t (.iv (.cptr (age y)))) (st.put b none) ds
 | n+1,.seq a b,Q,fr,st,ds=>vcC c a (seqK (vcF c t n b Q) Q) fr st ds
 | _,_,_,_,_,_=>False
@[go_sem ↓] theorem uX0 {c:Cf}{t n:Nat}{a b:Code}{Q:Kc}{fr:Fr}{st:ISt}{ds:List Dfd}:vcF c t (n+1) (.seq a b) Q fr st ds=vcC c a (seqK (vcF c t n b Q) Q) fr st ds:=(rfl)
theorem Inv.frzAt {C:Cx}{X0 X:WS}{N:Nat}{fr:Fr}{ds:List Dfd}{a:Act}(h:Inv C X0 N X fr ds a){t b:Nat}{y:IV}(ht:t<N)(J:fr t=.iv (.raw (.pointer (some ⟨b,0,none⟩))))(U:X.st b=some (.box y.cells)) :
  ∃X',X'.w=X.w/\X'.st=X.st.put b none/\Inv C X0 N X' (fr.put t (.iv (.cptr (age y)))) ds a:=by
 have k:=wW2 U;refine⟨X.lendS (ISt.put (λ_=>none) b (some (.box y.cells))) (X.st.put b none),rfl,rfl,?_⟩;have h1:=h.ext' (h.good.lendS_ext k) (h.good.lendS k);have hv:=h.fr.slot t;rw[J] at hv;have E:OI (ISt.put (λ_=>none) b (some (.box y.cells))) (.raw (.pointer (some ⟨b,0,none⟩))) (.cptr y):=.ptr b y y.cells (ISt.put_same ..) rfl λi r c D hc=>by
  rw[D] at hc;cases hc;exact .refl _
 have h2:=h1.put ht (E.v h.good k hv);have A:a.tmps.setIfInBounds t (tm a.tmps t)=a.tmps:=by
  refine Array.ext (by simp) λi h1 h2=>?_;rw[Array.getElem_setIfInBounds];split
  ·rename_i O;subst O;unfold tm;rw[Array.getD_eq_getD_getElem?,Array.getElem?_eq_getElem h2];rfl
  ·rfl
 rw[A] at h2;simpa only[age] using h2
theorem zUp {N:Nat}{c:Cf}{t:Nat}(ht:t<N){B:Nat}{X0:WS}{ro:Option Nat}{m:Nat}(E:c.rd=false->ro=none){Q:Kc}:∀(n:Nat) (A:Code) (X:WS) (fr:Fr) (ds:List Dfd) (a:Act),codeOk c N A=true →
  Inv (c.cx B) X0 N X fr ds a->vcF c t n A Q fr X.st ds->A.wpIn (yZ7 ro) m c.P (PQ (c.cx B) X0 N Q) a X.w
 | 0,A,X,fr,ds,a,hd,O,h=>by
  obtain⟨b,y,h1,h2,h3⟩:=h;obtain⟨X',e1,e2,D⟩:=O.frzAt ht h1 h2;rw[<- e2] at h3;have:=yUq A c B X0 ro m E Q X' _ ds a hd D h3;rw[e1] at this;exact this
 | n+1,.seq x y,X,fr,ds,a,hd,O,h=>by
  simp only[codeOk,bAt] at hd;refine wpIn_seq (wpIn_mono (yUq x c B X0 ro m E _ X fr ds a hd.1 O h) ?_);rintro e a' w' ⟨X',fr',J,rfl,D,U⟩;cases e with
  | normal=>exact zUp ht E n y X' fr' J a' hd.2 D U
  | _=>exact⟨X',fr',J,rfl,D,U⟩
 | n+1,.skip,_,_,_,_,_,_,h=>h.elim
 | n+1,.region ..,_,_,_,_,_,_,h=>h.elim
 | n+1,.cond ..,_,_,_,_,_,_,h=>h.elim
 | n+1,.block ..,_,_,_,_,_,_,h=>h.elim
 | n+1,.loop ..,_,_,_,_,_,_,h=>h.elim
 | n+1,.exit ..,_,_,_,_,_,_,h=>h.elim
 | n+1,.label ..,_,_,_,_,_,_,h=>h.elim
 | n+1,.goto ..,_,_,_,_,_,_,h=>h.elim
 | n+1,.ret,_,_,_,_,_,_,h=>h.elim
 | n+1,.scope ..,_,_,_,_,_,_,h=>h.elim
 | n+1,.rangeFunc ..,_,_,_,_,_,_,h=>h.elim
 | n+1,.refuse ..,_,_,_,_,_,_,h=>h.elim
theorem ICall.introF {c:Cf}{t n:Nat}{f:FuncId}{fn:Func}{A:Code}{args:List IV}{st:ISt}{K:IV->ISt->Prop}(hf:c.P.funcs[f]?=some fn)(hb:fn.body=some A)
  (hN:args.length<=fn.ntmps) (ht:t<fn.ntmps) (hd:codeOk c fn.ntmps A=true) (h:vcF c t n A (bodyK c.P c.gl fn.results.toList K) (frOf args) st []):ICall c.P c.gl f args st K:=by
 intro B X rs U E hv;subst E;refine (callsIn_wide (n:=0)).1 (callsIn_of_wp_marks hf hb trivial ?_);have hs:=zUp (N:=fn.ntmps) ht (c:=c) (B:=B) (X0:=X) (ro:=none) (m:=0) (λ_=>rfl) n A X (frOf args) [] _ hd (Inv.start U hv hN) h;refine wpIn_mono hs ?_;rintro e a' w' ⟨X',fr',D,rfl,O,J⟩;cases e with
 | normal=>exact zWf D X' a' O J
 | ret=>exact zWf D X' a' O J
 | _=>exact J.elim
end Go.Iv
namespace Go.Proofs.Tryz
open Go Go.Iv
set_option maxRecDepth 4000
variable (gl:Nat->Option IV)
theorem wJq {c:Cf}{ops:Array Oper}{Q:Fr->ISt->List Dfd->Prop}{A:Array Bool}{ad:Ad}{fr:Fr}{st:ISt}{ds:List Dfd}(h:Q fr st ds):anyV c ops Q 0 A ad fr st ds:=λ_=>h
theorem zKy {c:Cf}{ops:Array Oper}{Q:Fr->ISt->List Dfd->Prop}{n:Nat}{A:Array Bool}{ad:Ad}{fr:Fr}{st:ISt}{ds:List Dfd}(i:Nat)(h:Region.ready .any ops A=[i])
  (hs:yY4 c ops.toList (opAt ops i) (anyV c ops Q n (A.setIfInBounds i true)) ad fr st ds):anyV c ops Q (n+1) A ad fr st ds:=by
 refine⟨λh0=>(by rw[h] at h0;cases h0),λj D=>?_⟩;rw[h,List.mem_singleton] at D;subst D;exact hs
theorem vZg {c:Cf}{ops:Array Oper}{Q:Fr->ISt->List Dfd->Prop}{n:Nat}{A:Array Bool}{ad:Ad}{fr:Fr}{st:ISt}{ds:List Dfd}(i k:Nat)(h:Region.ready .any ops A=[i,k])
  (hs:yY4 c ops.toList (opAt ops i) (anyV c ops Q n (A.setIfInBounds i true)) ad fr st ds) (D:yY4 c ops.toList (opAt ops k) (anyV c ops Q n (A.setIfInBounds k true)) ad fr st ds):anyV c ops Q (n+1) A ad fr st ds:=by
 refine⟨λh0=>(by rw[h] at h0;cases h0),λj E=>?_⟩;rw[h,List.mem_cons,List.mem_singleton] at E;rcases E with rfl|rfl
 ·exact hs
 ·exact D
theorem yJr (c:Cf)(ops:List Oper)(dst:Option Nat)(op:Op)(D:TypeId)(pos:String)(A:Array Edge)(K:Kt)(ad:Ad)(fr:Fr)(st:ISt)(ds:List Dfd):yY4 c ops ⟨dst,op,D,pos,A,none⟩ K ad fr st ds=vcOp c dst op K ad fr st ds:=rfl
theorem zGo (fr:Fr)(d:Nat)(x y:SV):(fr.put d x).put d y=fr.put d y:=by
 funext s;simp only[Fr.put_apply];split<;>rfl
theorem wJc {esc:List Nat}{ord:List (Nat×List Nat)}{frz:List Nat}{d A:Nat}{p:String}{Q:Fr->ISt->List Dfd->Prop}{fr:Fr}{st:ISt}(hd:d ∉ esc)(D:d≠A)(E:A ∉ esc)
  (h:∀b:Bool,Q ((fr.put d (.box [.raw (.bool b)])).put A (.iv (.raw (.bool b)))) st []) :
  zKi (cf prog gl esc ord frz) #[⟨some d,.alloc 4,0,p,#[],none⟩,⟨none,.store 4 (.tmp d) (.const (.bool true)),0,p,#[⟨0,.data⟩,⟨2,.gcOnly .appendInPlace⟩],none⟩,
   ⟨none,.store 4 (.tmp d) (.const (.bool false)),0,p,#[⟨0,.data⟩,⟨1,.textOnly .appendInPlace⟩],none⟩,⟨some A,.load 4 (.tmp d),4,p,#[⟨0,.data⟩,⟨0,.phase⟩,⟨1,.phase⟩,⟨2,.phase⟩],none⟩] (some []) Q fr st []:=by
 rw[xZ2];refine zKy 0 (by kernel_rfl) ?_;simp only[go_sem,zA,hd,yJr];refine vZg 1 2 (by kernel_rfl) ?_ ?_
 ·simp only[go_sem,zL,yJr];refine zKy 2 (by kernel_rfl) ?_;simp only[go_sem,zL,yJr];refine zKy 3 (by kernel_rfl) ?_;simp only[go_sem,yJr];refine wJq ?_;rw[zGo,zGo];exact h false
 ·simp only[go_sem,zL,yJr];refine zKy 1 (by kernel_rfl) ?_;simp only[go_sem,zL,yJr];refine zKy 3 (by kernel_rfl) ?_;simp only[go_sem,yJr];refine wJq ?_;rw[zGo,zGo];exact h true
def yJb:Fm->List Fm
 | .mk 7 n us [a,b]=>[.mk 7 n us [a,b],imF a b,imF b a]
 | f=>[f]
mutual
def cloF:Fm->List Fm
 | .mk o n us sub=>yJb (.mk o n us sub)++yZb sub
def yZb:List Fm->List Fm
 | []=>[]
 | a::l=>cloF a++yZb l
end
def yUp (ca m:Nat)(x:IV):IObj:=.box [.raw (.int .u8 (ca:Int)),x,.raw (.map (some m))]
def Fo (ca m A:Nat)(B0:ISt)(l:List Fm)(st:ISt):Prop:=(l=[]/\st=B0.put A (some (yUp ca m (.sl ⟨true,.nil,0⟩ [])))) \/
 ∃g cap cs zs,l≠[]/\B0 g=none/\g≠A/\l.length<=cap/\cap*4<=cs.length/\cs.take (l.length*4)=zs.flatMap IV.cells/\IsFms l zs/\st=(B0.put A (some (yUp ca m (.raw (.slice (some ⟨g,0,none⟩) l.length cap))))).put g (some (.box cs))
abbrev ptr (b:Nat):IV:=.raw (.pointer (some ⟨b,0,none⟩))
abbrev colFn (b12 b6:Nat):IV:=.fn (.func 101) [] [.cptr (ptr b12),ptr b6]
def ColC (f:Fm):Prop:=∀(ca m D A:Nat) (x:IV) (_:IsFm f x) (B0 st:ISt) (l:List Fm),B0 D=some (.box [colFn A D])->D≠A->(l++cloF f).length<=1000000->Fo ca m A B0 l st →
 ICall prog gl 101 [x,.cptr (ptr A),ptr D] st (λ_ st'=>Fo ca m A B0 (l++cloF f) st')
theorem wKk:allI zKm [Value.int IntKind.u8 0,Value.string noN,Value.slice none 0 0,Value.slice none 0 0]=some [.raw (.int .u8 0),.raw (.string noN),.sl ⟨true,.nil,0⟩ [],.sl ⟨true,.nil,0⟩ []]:=rfl
theorem xKy (f:Fm):1<=(yJb f).length:=by
 unfold yJb;split<;>simp
theorem xKx {o:Nat}{n:ByteArray}{us:List Tm}{sub:List Fm}(h:¬ (o=7/\sub.length=2)):yJb (.mk o n us sub)=[.mk o n us sub]:=by
 unfold yJb;split
 ·rename_i A;cases A;exact absurd ⟨rfl,rfl⟩ h
 ·rfl
theorem zYg {B0:ISt}{b g:Nat}{a z c:Option IObj}(h:g≠b):((B0.put b a).put g c).put b z=(B0.put b z).put g c:=by
 funext d;simp only[ISt.put_apply];by_cases h1:d=b
 ·subst h1;rw[if_pos rfl,if_neg λe=>h e.symm,if_pos rfl]
 ·rw[if_neg h1,if_neg h1,if_neg h1]
theorem zQs {B0:ISt}{b g E:Nat}{a z c J:Option IObj}(O:B0 g=none)(h1:g≠b)(h2:E≠b):((((B0.put b a).put g c).put g none).put E J).put b z=(B0.put b z).put E J:=by
 funext d;simp only[ISt.put_apply];by_cases D:d=b
 ·subst D;rw[if_pos rfl,if_neg λe=>h2 e.symm,if_pos rfl]
 ·rw[if_neg D,if_neg D,if_neg D];by_cases A:d=g
  ·rw[if_pos A,A,O]
  ·rw[if_neg A,if_neg A]
theorem zXy {l:List Fm}{zs:List IV}(h:IsFms l zs):(zs.flatMap IV.cells).length=l.length*4:=by
 rw[<- h.len];refine yQn zs λz A=>?_;obtain⟨a,D,_⟩:=zZf h z A;cases a;obtain⟨_,_,_,_,rfl,_⟩:=D.mk;rfl
theorem zKr {cs' Z z new:List IV}{n:Nat}(A:Z.length=n*4)(D:new.length=4)(hl:(n+1)*4<=cs'.length)(h:cs'.take ((n+1)*4)=Z++z):(cs'.take (n*4)++new++cs'.drop (n*4+4)).take ((n+1)*4)=Z++new:=by
 have h1:cs'.take (n*4)=Z:=by
  have:=congrArg (List.take (n*4)) h;rw[List.take_take,Nat.min_eq_left (by omega),List.take_left' A] at this;exact this
 rw[h1,List.take_left'];rw[lLa,A,D];omega
theorem zZ3 {B0:ISt}{b g A:Nat}{a':IObj}{c:Option IObj}(J:B0 g=none)(E:g≠b)(D:A=g\/((B0.put b (some a')).put g c) A=none):A≠b/\B0 A=none:=by
 rcases D with rfl|h
 ·exact⟨E,J⟩
 ·by_cases h1:A=g
  ·subst h1;exact⟨E,J⟩
  ·rw[yQ5 h1] at h;by_cases h2:A=b
   ·subst h2;rw[ISt.put_same] at h;cases h
   ·exact⟨h2,by rwa [yQ5 h2] at h⟩
theorem Fo.first {ca m A g cap:Nat}{B0:ISt}{cs:List IV}{f:Fm}{x:IV}(hx:IsFm f x)(J:B0 g=none)(E:g≠A)(hc:1<=cap)(D:cap*4<=cs.length)(ht:cs.take 4=x.cells) :
  Fo ca m A B0 [f] ((B0.put A (some (yUp ca m (.raw (.slice (some ⟨g,0,none⟩) 1 cap))))).put g (some (.box cs))) :=
 .inr ⟨g,cap,cs,[x],by simp,J,E,hc,D,by simpa using ht,.one hx,rfl⟩
theorem Fo.snoc {ca m A g cap:Nat}{B0:ISt}{cs:List IV}{l:List Fm}{zs:List IV}(D:IsFms l zs){f:Fm}{x:IV}(hx:IsFm f x)(O:B0 g=none)(J:g≠A)(hc:l.length+1<=cap)(E:cap*4<=cs.length)
  (ht:cs.take ((l.length+1)*4)=zs.flatMap IV.cells++x.cells) :
  Fo ca m A B0 (l++[f]) ((B0.put A (some (yUp ca m (.raw (.slice (some ⟨g,0,none⟩) (l.length+1) cap))))).put g (some (.box cs))) :=
 .inr ⟨g,cap,cs,zs++[x],by simp,O,J,by simpa using hc,E,by simpa using ht,D.append (.one hx),by simp⟩
theorem wU7 {c:Cf}{A:Code}{K:Fr->ISt->List Dfd->Prop}{Q:Kc}{fr:Fr}{st:ISt}{ds:List Dfd}(J:Fr->ISt->List Dfd->Prop)(h:vcC c A (seqK J Q) fr st ds)(D:∀fr st ds,J fr st ds->K fr st ds):vcC c A (seqK K Q) fr st ds :=
 yUk A (λe fr st ds=>by cases e<;>first|exact D _ _ _|exact id) h
theorem zU0 {b:Bool}{c:Cf}{A B:Code}{K:Fr->ISt->List Dfd->Prop}{Q:Kc}{fr:Fr}{st:ISt}{ds:List Dfd}(J:Fr->ISt->List Dfd->Prop)(E:∀fr st ds,J fr st ds->K fr st ds)
  (h1:b=true->vcC c A (seqK J Q) fr st ds) (h2:b=false->vcC c B (seqK J Q) fr st ds):yYv b (vcC c A (seqK K Q) fr st ds) (vcC c B (seqK K Q) fr st ds) .mk .mk:=by
 have D:∀e fr st ds,seqK J Q e fr st ds->seqK K Q e fr st ds:=λe fr st ds=>by
  cases e<;>first|exact E _ _ _|exact id
 exact yZn (λh=>yUk A D (h1 h)) (λh=>yUk B D (h2 h))
theorem yGi {sub:List Fm}{k:Nat}{g:Fm}(h:sub[k]?=some g):yZb (sub.take (k+1))=yZb (sub.take k)++cloF g:=by
 have app:∀a b:List Fm,yZb (a++b)=yZb a++yZb b:=λa b=>by
  induction a with
  | nil=>rfl
  | cons c a A=>simp only[List.cons_append,yZb,A,List.append_assoc]
 rw[yQ7 h,app];simp[yZb]
theorem vZ3 {l:List Fm}{o:Nat}{n:ByteArray}{us:List Tm}{sub:List Fm}{k:Nat}{g:Fm}(h:(l++cloF (.mk o n us sub)).length<=1000000)(D:sub[k]?=some g):(l++yJb (.mk o n us sub)++yZb (sub.take k)++cloF g).length<=1000000:=by
 have mono:∀(a:List Fm) (k:Nat),(yZb (a.take k)).length<=(yZb a).length:=λa=>by
  induction a with
  | nil=>intro k;simp
  | cons c a A =>
   intro k;cases k with
   | zero=>simp[yZb]
   | succ k=>simp only[List.take_succ_cons,yZb,lLa];have:=A k;omega
 have h1:=mono sub (k+1);rw[yGi D] at h1;simp only[cloF,lLa] at h h1 ⊢;omega
theorem Fo.self {ca m A E:Nat}{B0 st:ISt}{l:List Fm}{o:IObj}(h:Fo ca m A B0 l st)(D:B0 E=some o)(J:E≠A):st E=some o:=by
 rcases h with⟨_,rfl⟩|⟨g,cap,cs,zs,_,O,_,_,_,_,_,rfl⟩
 ·rw[yQ5 J,D]
 ·rw[yQ5 (by rintro rfl;rw[O] at D;cases D),yQ5 J,D]
theorem wW9 {a b:Fm}{x y:IV}(D:IsFm a x)(A:IsFm b y):IsFm (imF a b) (.agg [.raw (.int .u8 6),.raw (.string noN),.sl ⟨true,.nil,0⟩ [],.sl ⟨true,.full,4⟩ [x,y]]) :=
 ⟨_,_,_,_,rfl,by decide,.inl rfl,rfl,.inr rfl,⟨x,_,rfl,D,y,_,rfl,A,rfl⟩⟩
theorem wWs (o:Nat)(n:ByteArray)(us:List Tm)(sub:List Fm)(IH:∀a∈sub,ColC gl a):ColC gl (.mk o n us sub):=by
 intro ca m b6 ac x hx B0 st l h6 n6 aq hF;obtain⟨t1,x1,t2,x2,rfl,ho,e1,i1,e2,i2⟩:=hx.mk;have aE:l.length+(yJb (.mk o n us sub)).length<=1000000:=by rw[lLa] at aq;simp only[cloF,lLa] at aq;omega
 have aC:=xKy (.mk o n us sub);refine ICall.intro (c:=cf prog gl [13,17,25,28,53,60,68,74,82,89,97,103] [(1,[]),(7,[]),(11,[])]) func101 rfl (by show _<=117;simp) (by kernel_rfl) ?_;simp only[go_sem,zE];refine wJc gl (by decide) (by decide) (by decide) λc1=>?_;simp only[go_sem];refine zU0 (λfr st ds=>Fo ca m ac B0 (l++[.mk o n us sub]) st/\ds=[]/\fr 1=.iv (.cptr (ptr ac))/\fr 2=.iv (ptr b6)/\fr 3=.box [.raw (.int .u8 (o:Int)),.raw (.string n),.sl t1 x1,.sl t2 x2]) ?_ (λh=>?_) (λh=>?_)
 ·rintro fr s1 _ ⟨av,rfl,f1,f2,f3⟩;rw[wU6];refine wU7 (λfr st ds=>Fo ca m ac B0 (l++yJb (.mk o n us sub)) st/\ds=[]/\fr 1=.iv (.cptr (ptr ac))/\fr 2=.iv (ptr b6)/\fr 3=.box [.raw (.int .u8 (o:Int)),.raw (.string n),.sl t1 x1,.sl t2 x2]) ?_ ?_
  ·by_cases h7:o=7
   ·subst h7;by_cases h2:x2.length=2
    ·rw[i2.len] at h2;obtain⟨a,b,rfl⟩:∃a b,sub=[a,b]:=by
      match sub,h2 with
      | [a,b],_=>exact⟨a,b,rfl⟩
     obtain⟨xa,_,rfl,ia,xb,_,rfl,ib,rfl⟩:=i2;cases a with
     | mk oa na ua sa =>
     cases b with
     | mk ob nb ub sb =>
     obtain⟨aO,aK,aN,aJ,rfl,ha⟩:=ia.mk;obtain⟨aM,aI,aL,aH,rfl,hb⟩:=ib.mk;simp only[go_sem,zE,zA,zL,f3,show decide (((7:Nat):Int)=7)=true from rfl];refine yZn (λ_=>?_) λh=>absurd h (by decide);simp only[go_sem,zE,zB,zA,zL,f3,fits,yQ3 e2,show ((0:Int)<=0)=True from eq_true (by decide),show ((0:Int)<=1)=True from eq_true (by decide),show Int.toNat 0=0 from rfl,show Int.toNat 1=1 from rfl,IV.one];rw[show l++yJb (.mk 7 n us [.mk oa na ua sa,.mk ob nb ub sb])=l++[.mk 7 n us [.mk oa na ua sa,.mk ob nb ub sb]]++[imF (.mk oa na ua sa) (.mk ob nb ub sb)]++[imF (.mk ob nb ub sb) (.mk oa na ua sa)] by simp[yJb]];have hL:(l++[Fm.mk 7 n us [.mk oa na ua sa,.mk ob nb ub sb]]).length+2<=1000000:=by simp[yJb] at aE ⊢;omega
     have aD:l++[Fm.mk 7 n us [.mk oa na ua sa,.mk ob nb ub sb]]≠[]:=by simp
     generalize l++[Fm.mk 7 n us [.mk oa na ua sa,.mk ob nb ub sb]]=L at av hL aD ⊢;refine wJc gl (by decide) (by decide) (by decide) λc2=>?_;simp only[go_sem];refine zU0 (λfr st ds=>Fo ca m ac B0 (L++[imF (.mk oa na ua sa) (.mk ob nb ub sb)]) st/\ds=[]/\fr 1=.iv (.cptr (ptr ac))/\fr 2=.iv (ptr b6) /\
      fr 3=.box [.raw (.int .u8 ((7:Nat):Int)),.raw (.string n),.sl t1 x1,.sl t2 [.agg [.raw (.int .u8 (oa:Int)),.raw (.string na),.sl aO aK,.sl aN aJ],.agg [.raw (.int .u8 (ob:Int)),.raw (.string nb),.sl aM aI,.sl aL aH]]] /\
      fr 4=.box [.raw (.int .u8 (oa:Int)),.raw (.string na),.sl aO aK,.sl aN aJ]/\fr 5=.box [.raw (.int .u8 (ob:Int)),.raw (.string nb),.sl aM aI,.sl aL aH]) ?_ (λh=>?_) (λh=>?_)
     ·rintro fr s2 _ ⟨az,rfl,f1,f2,f3,f4,f5⟩;have a1:(L++[imF (.mk oa na ua sa) (.mk ob nb ub sb)]).length+1<=1000000:=by rw[lLa];exact hL
      have aA:L++[imF (.mk oa na ua sa) (.mk ob nb ub sb)]≠[]:=by simp
      generalize L++[imF (.mk oa na ua sa) (.mk ob nb ub sb)]=L2 at az a1 aA ⊢;simp only[go_sem,zE];refine wJc gl (by decide) (by decide) (by decide) λc3=>?_;obtain⟨g,cap,cs,zs,ay,U,A,O,E,ae,hzs,rfl⟩:=az.resolve_left λh=>aA h.1;cases c3
      ·simp only[go_sem,zE,zA,zM,zL,f1,f4,f5,fits,yUp,yQ5 A.symm,yQ4,yJw];refine yX3 _ _ _ (ISt.put_same ..) rfl ⟨by show (L2.length+1)*72<=_;omega,by show L2.length+1<=_;omega⟩ ⟨O,E⟩ rfl ?_;intro g' J cs' ab k1 k2 k3;obtain⟨D,aa⟩:=zZ3 U A ab;simp only[go_sem,zE,zA,zL,f1,f2,f3,yQ5 D.symm,yQ5 A.symm,IV.one];rw[zQs U A D];exact .snoc hzs (wW9 ib ia) aa D k1 k2 (k3.trans (congrArg (·++_) ae))
      ·simp only[go_sem,zE,zA,zM,zL,f1,f4,f5,fits,yUp,yQ5 A.symm,yQ4,yJw,wKk];refine yX3 _ _ _ (ISt.put_same ..) rfl ⟨by show (L2.length+1)*72<=_;omega,by show L2.length+1<=_;omega⟩ ⟨O,E⟩ rfl ?_;intro g' J cs' ab k1 k2 k3;obtain⟨D,aa⟩:=zZ3 U A ab;simp only[go_sem,zE,zA,zL,f1,f2,f3,yQ5 D.symm,yQ5 D,yQ5 A.symm,IV.one];have aQ:J*4<=cs'.length:=k2;have aS:L2.length+1<=J:=k1;rw[if_pos ⟨iNn _,Nat.lt_succ_self _⟩,if_pos (by omega),zQs U A D,yQ9];exact .snoc hzs (wW9 ib ia) aa D k1 (by simp only[lLa,List.length_take,List.length_drop,List.length_cons,List.length_nil];omega) (zKr (by rw[zXy hzs]) rfl (by omega) (k3.trans (congrArg (·++_) ae)))
     ·obtain⟨g,cap,cs,zs,ay,U,A,O,E,ae,hzs,rfl⟩:=av.resolve_left λh=>aD h.1;simp only[go_sem,zE,zA,zM,zL,f1,fits,yUp,yQ5 A.symm,yQ4,yJw,wKk];refine yX3 _ _ _ (ISt.put_same ..) rfl ⟨by show (L.length+1)*72<=_;omega,by show L.length+1<=_;omega⟩ ⟨O,E⟩ rfl ?_;intro g' J cs' ab k1 k2 k3;obtain⟨D,aa⟩:=zZ3 U A ab;simp only[go_sem,zE,zA,zL,f1,f2,f3,yQ5 D.symm,yQ5 D,yQ5 A.symm,IV.one];have aQ:J*4<=cs'.length:=k2;have aS:L.length+1<=J:=k1;rw[if_pos ⟨iNn _,Nat.lt_succ_self _⟩,if_pos (by omega),zQs U A D,yQ9];exact .snoc hzs (wW9 ia ib) aa D k1 (by simp only[lLa,List.length_take,List.length_drop,List.length_cons,List.length_nil];omega) (zKr (by rw[zXy hzs]) rfl (by omega) (k3.trans (congrArg (·++_) ae)))
     ·obtain⟨g,cap,cs,zs,ay,U,A,O,E,ae,hzs,rfl⟩:=av.resolve_left λh=>aD h.1;simp only[go_sem,zE,zA,zM,zL,f1,fits,yUp,yQ5 A.symm,yQ4,yJw];refine yX3 _ _ _ (ISt.put_same ..) rfl ⟨by show (L.length+1)*72<=_;omega,by show L.length+1<=_;omega⟩ ⟨O,E⟩ rfl ?_;intro g' J cs' ab k1 k2 k3;obtain⟨D,aa⟩:=zZ3 U A ab;simp only[go_sem,zE,zA,zL,f1,f2,f3,yQ5 D.symm,yQ5 A.symm,IV.one];rw[zQs U A D];exact .snoc hzs (wW9 ia ib) aa D k1 k2 (k3.trans (congrArg (·++_) ae))
    ·have a8:¬ ((x2.length:Nat):Int)=2:=by omega
     simp only[go_sem,zE,f1,f2,f3,a8,decide_false,show decide (((7:Nat):Int)=7)=true from rfl];intro _;rw[xKx λh=>h2 (by rw[i2.len,h.2])];exact av
   ·have a7:¬ (o:Int)=7:=by omega
    simp only[go_sem,zE,zA,f1,f2,f3,a7,decide_false];rw[xKx λh=>h7 h.1];exact av
  ·rintro fr s2 _ ⟨az,rfl,f1,f2,f3⟩;simp only[go_sem,zE,f3];intro _;have aC:=i2.len;refine LoopC.ctr x2.length (λk fr st' ds=>Fo ca m ac B0 (l++yJb (.mk o n us sub)++yZb (sub.take k)) st'/\fr 1=.iv (.cptr (ptr ac))/\fr 2=.iv (ptr b6)/\fr 107=.iv (.sl t2 x2)/\fr 108=.iv (.raw (.int .i64 x2.length))/\fr 109=.iv (.raw (.int .i64 (k:Int)))/\ds=[]) ?_ ?_ ?_
   ·simp only[go_sem,zE];simpa[yZb] using ⟨az,f1,f2⟩
   ·rintro k fr aB _ aV ⟨au,f1,f2,f107,f108,f109,rfl⟩;rw[aC] at aV;obtain⟨g,U⟩:=yQ1 aV;obtain⟨z,hz,aW⟩:=i2.get U;have IHg:=IH g (lMg U) ca m b6 ac z aW B0 aB _ h6 n6 (vZ3 aq U) au;cases g with
    | mk og ng ug sg =>
    obtain⟨bi,bg,bh,bf,rfl,bl⟩:=aW.mk;simp only[go_sem,zE,zB,zA,zL,f2,f107,f108,f109,lt_i (show k<x2.length by omega),yQ3 e2,iNn,hz,fits,IV.one];rw[au.self h6 n6];simp only[go_sem];refine IHg.mono ?_;rintro _ aB a6;simp only[go_sem,zE,f1,f2,f107,f108,f109,yQc (show k<x2.length by omega) (show x2.length<=281474976710656 by omega)];rw[yGi U,<- List.append_assoc];exact a6
   ·rintro fr aB _ ⟨au,f1,f2,f107,f108,f109,rfl⟩;rw[aC,lTl] at au;simp only[go_sem,f108,f109,yQi (nLi _)];refine yQ0 ?_;rw[cloF,<- List.append_assoc];exact au
 ·rcases hF with⟨rfl,rfl⟩|⟨g,cap,cs,zs,ay,U,A,O,E,ae,hzs,rfl⟩
  ·simp only[go_sem,zE,zA,zM,zL,fits,yUp,yQ4,wKk];intro g cap aF;obtain⟨U,aG⟩:=aF;have gb:g≠ac:=by rintro rfl;rw[ISt.put_same] at U;cases U
   rw[yQ5 gb] at U;simp only[go_sem,zA,zL,yQ5 gb.symm,yQ5 gb,IV.one,show ((0:Int)<=((0:Nat):Int)/\(0:Nat)<1)=True from eq_true (by decide),List.flatMap_cons,List.flatMap_nil,IV.cells,List.append_nil,List.cons_append,List.nil_append];rw[zYg gb,yQ9];exact .first hx U gb aG (by simp;omega) rfl
  ·simp only[go_sem,zE,zA,zM,zL,fits,yUp,yQ5 A.symm,yQ4,wKk];refine yX3 _ _ _ (ISt.put_same ..) rfl ⟨by show (l.length+1)*72<=_;omega,by show l.length+1<=_;omega⟩ ⟨O,E⟩ rfl ?_;intro g' J cs' ab k1 k2 k3;obtain⟨D,aa⟩:=zZ3 U A ab;simp only[go_sem,zE,zA,zL,yQ5 D.symm,yQ5 D,yQ5 A.symm,IV.one];have aQ:J*4<=cs'.length:=k2;have aS:l.length+1<=J:=k1;rw[if_pos ⟨iNn _,Nat.lt_succ_self _⟩,if_pos (by omega),zQs U A D,yQ9];exact .snoc hzs hx aa D k1 (by simp only[lLa,List.length_take,List.length_drop,List.length_cons,List.length_nil];omega) (zKr (by rw[zXy hzs]) rfl (by omega) (k3.trans (congrArg (·++_) ae)))
 ·rcases hF with⟨rfl,rfl⟩|⟨g,cap,cs,zs,ay,U,A,O,E,ae,hzs,rfl⟩
  ·simp only[go_sem,zE,zA,zM,zL,fits,yUp,yQ4];intro g cap aF;obtain⟨U,aG⟩:=aF;have gb:g≠ac:=by rintro rfl;rw[ISt.put_same] at U;cases U
   rw[yQ5 gb] at U;simp only[go_sem,zA,zL,yQ5 gb.symm,IV.one];rw[zYg gb];exact .first hx U gb aG (by simp[IV.cells];omega) rfl
  ·simp only[go_sem,zE,zA,zM,zL,fits,yUp,yQ5 A.symm,yQ4];refine yX3 _ _ _ (ISt.put_same ..) rfl ⟨by show (l.length+1)*72<=_;omega,by show l.length+1<=_;omega⟩ ⟨O,E⟩ rfl ?_;intro g' J cs' ab k1 k2 k3;obtain⟨D,aa⟩:=zZ3 U A ab;simp only[go_sem,zE,zA,zL,yQ5 D.symm,yQ5 A.symm,IV.one];rw[zQs U A D];exact .snoc hzs hx aa D k1 k2 (k3.trans (congrArg (·++_) ae))
mutual
theorem vWw:∀f:Fm,ColC gl f
 | .mk o n us sub=>wWs gl o n us sub (wGo sub)
theorem wGo:∀l:List Fm,∀a∈l,ColC gl a
 | [],_,h=>by cases h
 | b::l,a,h=>by
  rcases List.mem_cons.1 h with h1|h
  ·rw[h1];exact vWw b
  ·exact wGo l a h
end
theorem wQz (T:Gt gl)(ca m:Nat)(tw:Tag)(xw:List IV)(ln:Ln)(x:IV)(hx:IsLn ln x)(e:Ex)(y:IV)(hy:IsEx e y)(hl:ln.1.length<=300000/\ln.2.length<=300000/\e.1.1.length<=300000/\e.1.2.length<=300000/\e.2.1<=300000/\e.2.2<=300000)(st:ISt) :
  ICall prog gl 74 [spI ca tw xw m,x,y] st (λr st'=>(∃a b c d,r=.tup [.agg [.sl a b,.sl c d],.raw (.bool (!tooN (calJ ca) ln e))]/\(tooN (calJ ca) ln e=false->IsLn (yUv (calJ ca) ln e) (.agg [.sl a b,.sl c d])))/\st'=st):=by
 obtain⟨t1,t2,rfl,e1,e2⟩:=hx;obtain⟨t3,t4,rfl,e3,e4⟩:=hy;obtain⟨l1,l2,l3,l4,l5,l6⟩:=hl;have E:decide ((ca:Int)=2)=calJ ca:=decide_eq_decide.2 (by omega);have J:IntKind.i64.wrap ((ln.1.length:Int)+(e.2.1:Int))=((ln.1.length+e.2.1:Nat):Int):=by rw[w64 (by omega) (by omega)];omega
 have d1:decide ((64:Int)<((ln.1.length+e.2.1:Nat):Int))=decide (64<ln.1.length+e.2.1):=decide_eq_decide.2 (by omega);have d0:decide ((0:Int)<(e.2.2:Int))=decide (0<e.2.2):=decide_eq_decide.2 (by omega);have nl:(yQk [])=[]:=rfl;have hj:=λ(R:List Nat) (tR:Tag) (D:okEs tR 1) (ah:R.length<=300000) st=>wG8 gl T R e.1.2 tR t4 D e4 (by omega) st;have O:=λst=>wG8 gl T ln.1 e.1.1 t1 t3 e1 e3 (by omega) st;refine ICall.intro (c:=cf prog gl [] [(5,[0,1,2,3,4,6,7,8,9,10,5,11,12,13,14])]) func74 rfl (by show _<=49;simp) (by kernel_rfl) ?_;generalize calJ ca=jj at E ⊢;cases jj
 ·have D:rgtN (false) ln e=ln.2:=by unfold rgtN;rw[if_neg (by simp)]
  have A:IntKind.i64.wrap (((ln.2).length:Int)+(e.2.2:Int))=(((ln.2).length+e.2.2:Nat):Int):=by rw[w64 (by first|omega|(simp only[List.length_nil];omega)) (by first|omega|(simp only[List.length_nil];omega))];first|omega|(simp only[List.length_nil];omega)
  have d2:decide ((64:Int)<(((ln.2).length+e.2.2:Nat):Int))=decide (64<(ln.2).length+e.2.2):=decide_eq_decide.2 (by omega);by_cases h1:64<ln.1.length+e.2.1
  ·have ht:tooN (false) ln e=true:=by unfold tooN;rw[dEt h1];rfl
   simp only[go_sem,zE,zA,zL,reduceCtorEq,E,fits,yQq,J,d1,dEt h1];intros;exact yQ0 ⟨⟨_,_,_,_,by rw[ht];rfl,λh=>by rw[ht] at h;cases h⟩,rfl⟩
  ·by_cases h2:64<(ln.2).length+e.2.2
   ·have ht:tooN (false) ln e=true:=by unfold tooN;rw[D,dEt h2,Bool.or_true]
    try simp only[List.length_nil] at A d2
    simp only[go_sem,zE,zA,zL,reduceCtorEq,E,fits,yQq,J,d1,dEf h1,A,dEt h2,d2];intros;exact yQ0 ⟨⟨_,_,_,_,by rw[ht];rfl,λh=>by rw[ht] at h;cases h⟩,rfl⟩
   ·have ht:tooN (false) ln e=false:=by unfold tooN;rw[D,dEf h1,dEf h2];rfl
    try simp only[List.length_nil] at A d2
    simp only[go_sem,zE,zA,reduceCtorEq,E,fits,yQq,J,d1,dEf h1,A,dEf h2,d2];intros;refine (O _).mono ?_;rintro _ st ⟨⟨t5,rfl,e5⟩,rfl⟩;simp only[go_sem,zE,zA];refine (hj (ln.2) t2 (by first|exact e2|exact .inl rfl) (by first|omega|(simp only[List.length_nil];omega)) _).mono ?_;rintro _ st ⟨⟨t6,rfl,U⟩,rfl⟩;simp only[go_sem,zE,zA,zL,fits];exact yQ0 ⟨⟨_,_,_,_,by rw[ht];rfl,λ_=>⟨t5,t6,(by unfold yUv;rw[D];try rfl),e5,U⟩⟩,rfl⟩
 ·by_cases h0:0<e.2.2
  ·have D:rgtN (true) ln e=([]:List Nat):=by unfold rgtN;rw[if_pos ⟨rfl,h0⟩]
   have A:IntKind.i64.wrap (((([]:List Nat)).length:Int)+(e.2.2:Int))=(((([]:List Nat)).length+e.2.2:Nat):Int):=by rw[w64 (by first|omega|(simp only[List.length_nil];omega)) (by first|omega|(simp only[List.length_nil];omega))];first|omega|(simp only[List.length_nil];omega)
   have d2:decide ((64:Int)<(((([]:List Nat)).length+e.2.2:Nat):Int))=decide (64<(([]:List Nat)).length+e.2.2):=decide_eq_decide.2 (by omega);by_cases h1:64<ln.1.length+e.2.1
   ·have ht:tooN (true) ln e=true:=by unfold tooN;rw[dEt h1];rfl
    simp only[go_sem,zE,zA,zL,reduceCtorEq,E,d0,dEt h0,fits,yQq,J,d1,dEt h1];intros;exact yQ0 ⟨⟨_,_,_,_,by rw[ht];rfl,λh=>by rw[ht] at h;cases h⟩,rfl⟩
   ·by_cases h2:64<(([]:List Nat)).length+e.2.2
    ·have ht:tooN (true) ln e=true:=by unfold tooN;rw[D,dEt h2,Bool.or_true]
     try simp only[List.length_nil] at A d2
     simp only[go_sem,zE,zA,zL,reduceCtorEq,E,d0,dEt h0,fits,yQq,J,d1,dEf h1,A,dEt (show (64:Int)<(e.2.2:Int) by simp at h2;omega)];intros;exact yQ0 ⟨⟨_,_,_,_,by rw[ht];rfl,λh=>by rw[ht] at h;cases h⟩,rfl⟩
    ·have ht:tooN (true) ln e=false:=by unfold tooN;rw[D,dEf h1,dEf h2];rfl
     try simp only[List.length_nil] at A d2
     simp only[go_sem,zE,zA,zL,reduceCtorEq,E,d0,dEt h0,fits,yQq,J,d1,dEf h1,A,dEf (show ¬ (64:Int)<(e.2.2:Int) by simp at h2;omega)];intros;refine (O _).mono ?_;rintro _ st ⟨⟨t5,rfl,e5⟩,rfl⟩;simp only[go_sem,zE,zA];refine (hj (([]:List Nat)) ⟨true,.nil,0⟩ (by first|exact e2|exact .inl rfl) (by first|omega|(simp only[List.length_nil];omega)) _).mono ?_;rintro _ st ⟨⟨t6,rfl,U⟩,rfl⟩;simp only[go_sem,zE,zA,zL,fits];exact yQ0 ⟨⟨_,_,_,_,by rw[ht];rfl,λ_=>⟨t5,t6,(by unfold yUv;rw[D];try rfl),e5,U⟩⟩,rfl⟩
  ·have D:rgtN (true) ln e=ln.2:=by unfold rgtN;rw[if_neg λh=>h0 h.2]
   have A:IntKind.i64.wrap (((ln.2).length:Int)+(e.2.2:Int))=(((ln.2).length+e.2.2:Nat):Int):=by rw[w64 (by first|omega|(simp only[List.length_nil];omega)) (by first|omega|(simp only[List.length_nil];omega))];first|omega|(simp only[List.length_nil];omega)
   have d2:decide ((64:Int)<(((ln.2).length+e.2.2:Nat):Int))=decide (64<(ln.2).length+e.2.2):=decide_eq_decide.2 (by omega);by_cases h1:64<ln.1.length+e.2.1
   ·have ht:tooN (true) ln e=true:=by unfold tooN;rw[dEt h1];rfl
    simp only[go_sem,zE,zA,zL,reduceCtorEq,E,d0,dEf h0,fits,yQq,J,d1,dEt h1];intros;exact yQ0 ⟨⟨_,_,_,_,by rw[ht];rfl,λh=>by rw[ht] at h;cases h⟩,rfl⟩
   ·by_cases h2:64<(ln.2).length+e.2.2
    ·have ht:tooN (true) ln e=true:=by unfold tooN;rw[D,dEt h2,Bool.or_true]
     try simp only[List.length_nil] at A d2
     simp only[go_sem,zE,zA,zL,reduceCtorEq,E,d0,dEf h0,fits,yQq,J,d1,dEf h1,A,dEt h2,d2];intros;exact yQ0 ⟨⟨_,_,_,_,by rw[ht];rfl,λh=>by rw[ht] at h;cases h⟩,rfl⟩
    ·have ht:tooN (true) ln e=false:=by unfold tooN;rw[D,dEf h1,dEf h2];rfl
     try simp only[List.length_nil] at A d2
     simp only[go_sem,zE,zA,reduceCtorEq,E,d0,dEf h0,fits,yQq,J,d1,dEf h1,A,dEf h2,d2];intros;refine (O _).mono ?_;rintro _ st ⟨⟨t5,rfl,e5⟩,rfl⟩;simp only[go_sem,zE,zA];refine (hj (ln.2) t2 (by first|exact e2|exact .inl rfl) (by first|omega|(simp only[List.length_nil];omega)) _).mono ?_;rintro _ st ⟨⟨t6,rfl,U⟩,rfl⟩;simp only[go_sem,zE,zA,zL,fits];exact yQ0 ⟨⟨_,_,_,_,by rw[ht];rfl,λ_=>⟨t5,t6,(by unfold yUv;rw[D];try rfl),e5,U⟩⟩,rfl⟩
def plcs (ln:Ln):List (Nat×Bool):=(ln.1.map λi=>(i,false))++ln.2.map λi=>(i,true)
abbrev plcI (p:Nat×Bool):IV:=.agg [.raw (.int .i64 (p.1:Int)),.raw (.bool p.2)]
def plX (ln:Ln):Nat->List IV->Prop:=λk a=>∃p,(plcs ln)[k]?=some p/\a=[plcI p]
theorem yUw (ln:Ln):(plcs ln).length=ln.1.length+ln.2.length:=by simp[plcs]
theorem xV6 (ln:Ln)(x:IV)(hx:IsLn ln x)(st:ISt):ICall prog gl 72 [x] st (λr st'=>r=.fn (.func 108) [] [.cptr x]/\st'=st):=by
 obtain⟨t1,t2,rfl,D,A⟩:=hx;refine ICall.intro (c:=cf prog gl [] [] [1]) func72 rfl (by show _<=4;simp) (by kernel_rfl) ?_;simp only[go_sem,zE];exact yQ0 ⟨rfl,rfl⟩
theorem xQ4 (ln:Ln)(x:IV)(hx:IsLn ln x)(hl:ln.1.length<=1000000/\ln.2.length<=1000000)(I:Nat->ISt->Prop):IterC prog gl 108 [] [.cptr x] (plX ln) (plcs ln).length I:=by
 obtain⟨t1,t2,rfl,e1,e2⟩:=hx;rintro y I' S' st ⟨f,U,ca,rfl,ab,E⟩ _ hy h0;change ICall prog gl _ [.fn f U ca,_] st _;refine iI func108 ?_;simp only[go_sem,fits,yQq];intros;refine LoopC.ctr ln.1.length (λk fr st' ds=>I' k st'/\fr 0=.iv (.fn f U ca)/\fr 1=.iv (.cptr (.agg [.sl t1 (yQk ln.1),.sl t2 (yQk ln.2)]))/\fr 8=.iv (.sl t1 (yQk ln.1))/\fr 9=.iv (.raw (.int .i64 ln.1.length))/\fr 10=.iv (.raw (.int .i64 (k:Int)))/\ds=[]) ?_ ?_ ?_
 ·simp only[go_sem,zE,reduceCtorEq];exact⟨h0,rfl⟩
 ·rintro k fr st _ A ⟨J,f0,f1,f8,f9,f10,rfl⟩;obtain⟨n,O⟩:=yQ1 A;have D:=hy k [plcI (n,false)] st ⟨(n,false),by unfold plcs;rw[List.getElem?_append_left (by simpa using A),List.getElem?_map,O];rfl,rfl⟩ J;simp only[go_sem,zE,zA,zL,reduceCtorEq,f0,f8,f9,f10,lt_i A,yQ3 e1,iNn,yZ8 O,fits];refine yZ4 E (D.mono ?_);rintro _ st (⟨rfl,h⟩|⟨rfl,h⟩)
  ·simp only[go_sem,zE,reduceCtorEq,f0,f1,f8,f9,f10,yQc A (show ln.1.length<=281474976710656 by omega)];exact h
  ·simp only[go_sem];exact yQ0 (.inr h)
 ·rintro fr st _ ⟨J,f0,f1,f8,f9,f10,rfl⟩;simp only[go_sem,zE,f1,f9,f10,yQi (nLi _),yQq];intro _;refine LoopC.ctr ln.2.length (λk fr st' ds=>I' (ln.1.length+k) st'/\fr 0=.iv (.fn f U ca)/\fr 21=.iv (.sl t2 (yQk ln.2))/\fr 22=.iv (.raw (.int .i64 ln.2.length))/\fr 23=.iv (.raw (.int .i64 (k:Int)))/\ds=[]) ?_ ?_ ?_
  ·simp only[go_sem,zE,reduceCtorEq];exact⟨J,f0,rfl⟩
  ·rintro k fr st _ A ⟨J,f0,f21,f22,f23,rfl⟩;obtain⟨n,O⟩:=yQ1 A;have D:=hy (ln.1.length+k) [plcI (n,true)] st ⟨(n,true),by unfold plcs;rw[List.getElem?_append_right (by simp),List.length_map,Nat.add_sub_cancel_left,List.getElem?_map,O];rfl,rfl⟩ J;simp only[go_sem,zE,zA,zL,reduceCtorEq,f0,f21,f22,f23,lt_i A,yQ3 e2,iNn,yZ8 O,fits];refine yZ4 E (D.mono ?_);rintro _ st (⟨rfl,h⟩|⟨rfl,h⟩)
   ·simp only[go_sem,zE,reduceCtorEq,f0,f21,f22,f23,yQc A (show ln.2.length<=281474976710656 by omega)];exact h
   ·simp only[go_sem];exact yQ0 (.inr h)
  ·rintro fr st _ ⟨J,f0,f21,f22,f23,rfl⟩;simp only[go_sem,f22,f23,yQi (nLi _)];refine yQ0 (.inl ?_);rw[yUw];exact J
theorem wZf (m:Nat)(w x:IV)(c:List IV)(A:w=.cptr (.agg c))(ln:Ln)(hx:IsLn ln x)(st:ISt):ICall prog gl 40 [w,x] st (λr st'=>r=.fn (.func 71) [] [.cptr x,.cptr w]/\st'=st):=by
 obtain⟨t1,t2,rfl,E,D⟩:=hx;subst A;refine ICall.intro (c:=cf prog gl [] [] [2,3]) func40 rfl (by show _<=6;simp) (by kernel_rfl) ?_;simp only[go_sem,zE];exact yQ0 ⟨rfl,rfl⟩
theorem nanC (a:Int)(st:ISt):ICall prog gl 134 [.raw (.int .i64 a)] st (λr st'=>r=.raw (.bool false)/\st'=st):=by
 refine iI func134 ?_;simp only[go_sem,zE,reduceCtorEq,decide_true];exact yQ0 ⟨rfl,rfl⟩
theorem nanS (a:Int)(st:ISt):ICall prog gl 104 [.raw (.int .i64 a)] st (λr st'=>r=.raw (.bool false)/\st'=st):=by
 refine iI func104 ?_;simp only[go_sem,zE,reduceCtorEq,decide_true];exact yQ0 ⟨rfl,rfl⟩
theorem wW1 (a b:Int)(st:ISt):ICall prog gl 103 [.raw (.int .i64 a),.raw (.int .i64 b)] st (λr st'=>r=.raw (.bool (decide (a<b)))/\st'=st):=by
 refine iI func103 ?_;simp only[go_sem,zA,reduceCtorEq];refine (nanC gl _ _).mono ?_;rintro _ st ⟨rfl,rfl⟩;simp only[go_sem,zE,reduceCtorEq];exact yQ0 ⟨rfl,rfl⟩
theorem kQj (l:List Nat)(tg:Tag)(ab:okEs tg 1)(hl:Inc l)(ac:l.length<=1099511627776)(n:Nat)(st:ISt) :
  ICall prog gl 69 [.sl tg (yQk l),.raw (.int .i64 (n:Int))] st
   (λr st'=>(∃(i:Nat),r=.tup [.raw (.int .i64 (i:Int)),.raw (.bool (decide (n∈l)))])/\st'=st):=by
 have O:∀ {i k a b:Nat},l[i]?=some a->l[k]?=some b->i<k->a<b:=λD E ak=>by
  obtain⟨h1,h2⟩:=lGs D;obtain⟨h3,h4⟩:=lGs E;have:=List.pairwise_iff_getElem.1 hl _ _ h1 h3 ak
  rwa [h2,h4] at this
 have c1:=λn:Int=>yJ1 prog 3 185 zVi zGe .i64 n;have c2:=λn:Int=>yJ1 prog 185 3 zGe zVi .u64 n;refine iI func69 ?_;simp only[go_sem,zE,reduceCtorEq,yQq];intro _;refine LoopC.dec l.length (λm fr st' ds=>(∃lo A,m=A-lo/\lo<=A/\A<=l.length/\(∀k a,k<lo->l[k]?=some a->a<n)/\(∀k a,A<=k->l[k]?=some a->¬ a<n)/\fr 7=.iv (.raw (.int .i64 (lo:Int)))/\fr 8=.iv (.raw (.int .i64 (A:Int))))/\fr 0=.iv (.sl tg (yQk l))/\fr 1=.iv (.raw (.int .i64 (n:Int))) /\
  fr 6=.iv (.raw (.int .i64 l.length))/\st'=st/\ds=[]) ?_ ?_
 ·simp only[go_sem,zE,reduceCtorEq];refine⟨0,l.length,by omega,by omega,by omega,λk a hk=>absurd hk (by omega),λk a hk D=>?_,rfl,rfl⟩;have:=(lGs D).1;omega
 ·rintro m fr al _ ⟨⟨lo,A,hm,aj,ae,h1,h2,f7,f8⟩,f0,f1,f6,rfl,rfl⟩;by_cases ai:lo<A
  ·obtain⟨ah,ag⟩:=wGd aj ae ac;obtain⟨a,D⟩:=yQ1 (l:=l) (k:=(lo+A) / 2) (by omega);simp only[go_sem,zE,zA,reduceCtorEq,f0,f1,f7,f8,lt_i ai,c1,c2,show ((0:Int)<=1)=True from eq_true (by omega),wGc,ah,ag,yQ3 ab,iNn,yZ8 D,fits];refine (wW1 gl _ _ _).mono ?_;rintro _ _ ⟨rfl,rfl⟩;by_cases hc:a<n
   ·simp only[go_sem,zE,reduceCtorEq,f0,f1,f6,f8,dEt (show (a:Int)<n by omega),yQc (show (lo+A) / 2<l.length by omega) (show l.length<=281474976710656 by omega)];refine⟨A-((lo+A) / 2+1),by omega,(lo+A) / 2+1,A,rfl,by omega,ae,λk b hk E=>?_,h2,rfl,rfl⟩;rcases Nat.lt_or_ge k ((lo+A) / 2) with h|h
    ·exact Nat.lt_trans (O E D h) hc
    ·obtain rfl:k=(lo+A) / 2:=by omega
     rw[D] at E;cases E;exact hc
   ·simp only[go_sem,zE,reduceCtorEq,f0,f1,f6,f7,dEf (show ¬ (a:Int)<n by omega)];refine⟨(lo+A) / 2-lo,by omega,lo,(lo+A) / 2,rfl,by omega,by omega,h1,λk b hk E=>?_,rfl,rfl⟩;rcases Nat.lt_or_ge ((lo+A) / 2) k with h|h
    ·have:=O D E h;omega
    ·obtain rfl:k=(lo+A) / 2:=by omega
     rw[D] at E;cases E;exact hc
  ·obtain rfl:lo=A:=by omega
   have J:n∈l↔l[lo]?=some n:=⟨λh=>by
    obtain⟨k,hk⟩:=List.mem_iff_getElem?.1 h;rcases Nat.lt_trichotomy k lo with h|h|h
    ·exact absurd (h1 k n h hk) (nLi _)
    ·rwa [<- h]
    ·obtain⟨b,E⟩:=yQ1 (l:=l) (k:=lo) (by have:=(lGs hk).1;omega);exact absurd (O E hk h) (h2 lo b (Nat.le_refl _) E),lMg⟩
   by_cases U:lo<l.length
   ·obtain⟨a,D⟩:=yQ1 U;by_cases hc:a=n
    ·subst hc;have hd:decide (a∈l)=true:=dEt (J.2 D);rw[hd];simp only[go_sem,zE,reduceCtorEq,f0,f1,f6,f7,f8,yQi (nLi _),lt_i U,yQ3 ab,iNn,yZ8 D,fits,decide_true];exact yQ0 ⟨⟨lo,rfl⟩,rfl⟩
    ·have hd:decide (n∈l)=false:=dEf λh=>by
      rw[J,D] at h;cases h;exact hc rfl
     rw[hd];simp only[go_sem,zE,zA,reduceCtorEq,f0,f1,f6,f7,f8,yQi (nLi _),lt_i U,yQ3 ab,iNn,yZ8 D,fits,dEf (show ¬ (a:Int)=n by omega)];refine (nanS gl _ _).mono ?_;rintro _ _ ⟨rfl,rfl⟩;simp only[go_sem,zE];exact yQ0 ⟨⟨lo,rfl⟩,rfl⟩
   ·have hd:decide (n∈l)=false:=dEf λh=>by
     rw[J] at h;exact U (lGs h).1
    rw[hd];simp only[go_sem,zE,f6,f7,f8,yQi (nLi _),yQi U];exact yQ0 ⟨⟨lo,rfl⟩,rfl⟩
def axW (W:List Fm)(ln:Ln):Option (Nat×Fm):=match ln.1.find? (λi=>decide (i∈ln.2)) with
 | some i=>some (1,(W[i]?).getD fm0)
 | none=>if (ln.1.any λi=>zK3 ((W[i]?).getD fm0))=true then some (2,.mk 2 noN [] []) else none
theorem wJl {W:List Fm}{ln:Ln}(h:Ix W ln.1):(axW W ln).isSome=true↔clN W ln:=by
 unfold axW clN;cases J:ln.1.find? (λi=>decide (i∈ln.2)) with
 | some i=>simp;exact .inl ⟨i,List.mem_of_find?_eq_some J,by simpa using List.find?_some J⟩
 | none =>
  have O:¬ ∃i∈ln.1,i∈ln.2:=λ⟨i,h1,h2⟩=>by
   have:=List.find?_eq_none.1 J i h1;simp[h2] at this
  simp only[O,false_or];constructor
  ·intro h2;split at h2
   ·rename_i U;obtain⟨i,D,E⟩:=List.any_eq_true.1 U;obtain⟨f,A⟩:=h.get D;exact⟨i,D,f,A,by rw[A] at E;exact E⟩
   ·cases h2
  ·rintro⟨i,D,f,A,E⟩;rw[if_pos (List.any_eq_true.2 ⟨i,D,by rw[A];exact E⟩)];rfl
theorem xGq {p:Nat->Bool}{l:List Nat}{k a:Nat}(h:(l.take k).find? p=none)(A:l[k]?=some a):(p a=true->l.find? p=some a)/\(p a=false->(l.take (k+1)).find? p=none):=by
 refine⟨λhp=>?_,λhp=>?_⟩
 ·obtain⟨h1,h2⟩:=lGs A;rw[<- List.take_append_drop k l,List.find?_append,h,List.drop_eq_getElem_cons h1,h2];simp[hp]
 ·rw[yQ7 A,List.find?_append,h];simp[hp]
theorem xVx (f:Fm):zK3 f=decide (f.op=2):=by cases f;rfl
theorem zU3 (ca m:Nat)(W:List Fm)(hS:SpOk ca W)(tw:Tag)(xw:List IV)(htw:okEs tw 4)(hxw:IsFms W xw)(ln:Ln)(E:LnOk W ln)(x:IV)(hx:IsLn ln x)(st:ISt) :
  ICall prog gl 38 [spI ca tw xw m,x] st (λr st'=>(∃z,r=.tup [.raw (.int .u8 (((axW W ln).getD (0,fm0)).1:Int)),z,.raw (.bool (axW W ln).isSome)]/\IsFm ((axW W ln).getD (0,fm0)).2 z)/\st'=st):=by
 obtain⟨t1,t2,rfl,e1,e2⟩:=hx;have aA:=yYs E.1.1 E.1.2;have az:=yYs E.2.1 E.2.2;have aB:=hS.len;have ak:=λn st=>kQj gl ln.2 t2 e2 E.2.1 (by omega) n st;refine iI func38 ?_;simp only[go_sem,zE,yQq];intro _;refine LoopC.ctr ln.1.length (λk fr st' ds=>(ln.1.take k).find? (λi=>decide (i∈ln.2))=none/\fr 0=.iv (spI ca tw xw m)/\fr 3=.box [.sl t1 (yQk ln.1),.sl t2 (yQk ln.2)]/\(∃c,fr 5=.box c/\c.length=4) /\
  fr 14=.iv (.sl t1 (yQk ln.1))/\fr 15=.iv (.raw (.int .i64 ln.1.length))/\fr 16=.iv (.raw (.int .i64 (k:Int)))/\st'=st/\ds=[]) ?_ ?_ ?_
 ·simp only[go_sem,zE,reduceCtorEq];exact⟨rfl,⟨_,rfl,rfl⟩,rfl⟩
 ·rintro k fr af _ D ⟨J,f0,f3,⟨c5,f5,A⟩,f14,f15,f16,rfl,rfl⟩;obtain⟨a,ha⟩:=yQ1 D;obtain⟨g,hg⟩:=E.1.get (lMg ha);have ai:=(lGs hg).1;obtain⟨q1,q2⟩:=xGq J ha;simp only[go_sem,zE,zA,f3,f14,f15,f16,lt_i D,yQ3 e1,iNn,yZ8 ha,fits];refine (ak a _).mono ?_;rintro _ st ⟨⟨i,rfl⟩,rfl⟩;by_cases ab:a∈ln.2
  ·have O:axW W ln=some (1,g):=by unfold axW;rw[q1 (dEt ab)];simp[hg]
   obtain⟨y,aa,hy⟩:=hxw.get hg;have aj:=λst=>zQx gl g y hy (by have:=hS.size (lMg hg);omega) st;obtain⟨y1,y2,y3,y4,y5,y6,rfl⟩:=hy.agg;simp only[go_sem,zE,zB,zA,reduceCtorEq,f0,dEt ab,fits,aa,yQ3 htw,iNn];refine (aj _).mono ?_;rintro z _ ⟨hz,rfl⟩;have ag:=hz.1;obtain⟨z1,z2,z3,z4,z5,z6,rfl⟩:=ag.agg;simp only[go_sem,zE,zA,zL,f5,A];rw[O];refine yQ0 ⟨⟨_,rfl,?_⟩,rfl⟩;exact ag
  ·simp only[go_sem,zE,reduceCtorEq,f0,f3,f5,f14,f15,f16,dEf ab,yQc D (show ln.1.length<=281474976710656 by omega)];exact⟨q2 (dEf ab),_,rfl,A⟩
 ·rintro fr af _ ⟨J,f0,f3,⟨c5,f5,A⟩,f14,f15,f16,rfl,rfl⟩;rw[lTl] at J;simp only[go_sem,zE,f3,f15,f16,yQi (nLi _),yQq];intro _;refine LoopC.ctr ln.1.length (λk fr st' ds=>((ln.1.take k).any λi=>zK3 ((W[i]?).getD fm0))=false/\fr 0=.iv (spI ca tw xw m)/\(∃c,fr 5=.box c/\c.length=4) /\
   fr 38=.iv (.sl t1 (yQk ln.1))/\fr 39=.iv (.raw (.int .i64 ln.1.length))/\fr 40=.iv (.raw (.int .i64 (k:Int)))/\st'=af/\ds=[]) ?_ ?_ ?_
  ·simp only[go_sem,zE,reduceCtorEq];exact⟨rfl,f0,⟨_,f5,A⟩,rfl⟩
  ·rintro k fr st _ D ⟨U,f0,⟨c5,f5,A⟩,f38,f39,f40,rfl,rfl⟩;obtain⟨a,ha⟩:=yQ1 D;obtain⟨g,hg⟩:=E.1.get (lMg ha);have ai:=(lGs hg).1;obtain⟨y,aa,hy⟩:=hxw.get hg;obtain⟨y1,y2,y3,y4,y5,y6,rfl⟩:=hy.agg;obtain rfl:y1=g.op:=vVf hy;have htk:(ln.1.take (k+1)).any (λi=>zK3 ((W[i]?).getD fm0))=decide (g.op=2):=by
    rw[yQ7 ha,List.any_append,U,List.any_cons,List.any_nil,hg,<- xVx g];simp
   by_cases h2:g.op=2
   ·have O:axW W ln=some (2,.mk 2 noN [] []):=by
     unfold axW;rw[J];simp only;rw[if_pos (List.any_eq_true.2 ⟨a,lMg ha,by rw[hg];simp[xVx,h2]⟩)]
    simp only[go_sem,zE,zA,zL,reduceCtorEq,f0,f5,f38,f39,f40,lt_i D,yQ3 e1,iNn,yZ8 ha,fits,aa,yQ3 htw,dEt (show (g.op:Int)=2 by omega),A];rw[O];refine yQ0 ⟨⟨_,rfl,?_⟩,rfl⟩;simp only[IsFm,Option.getD_some];exact⟨_,_,_,_,rfl,by omega,.inl rfl,by simp only[IsTms],.inl rfl,by simp only[IsFms]⟩
   ·simp only[go_sem,zE,reduceCtorEq,f0,f5,f38,f39,f40,lt_i D,yQ3 e1,iNn,yZ8 ha,fits,aa,yQ3 htw,dEf (show ¬ (g.op:Int)=2 by omega),yQc D (show ln.1.length<=281474976710656 by omega)];exact⟨by rw[htk];exact dEf h2,_,rfl,A⟩
  ·rintro fr st _ ⟨U,f0,⟨c5,f5,A⟩,f38,f39,f40,rfl,rfl⟩;rw[lTl] at U;have O:axW W ln=none:=by
    unfold axW;rw[J];simp only;rw[if_neg (by rw[U];simp)]
   simp only[go_sem,zE,zA,zL,f5,f39,f40,yQi (nLi _),A];rw[O];refine yQ0 ⟨⟨_,rfl,?_⟩,rfl⟩;simp only[IsFm,Option.getD_none,fm0];exact⟨_,_,_,_,rfl,by omega,.inl rfl,by simp only[IsTms],.inl rfl,by simp only[IsFms]⟩
def b3 (p:Nat×Bool):List UInt8:=[UInt8.ofNat (p.1 / 65536),UInt8.ofNat (p.1 / 256),UInt8.ofNat p.1]
def keyL (ln:Ln):List UInt8:=(plcs ln).flatMap b3++[UInt8.ofNat ln.1.length]
def keyB (ln:Ln):ByteArray:=⟨(keyL ln).toArray⟩
def byI (l:List UInt8):List IV:=l.map λu=>.raw (.int .u8 (u.toNat:Int))
theorem xZf:∀l:List UInt8,yY3 (byI l)=some l
 | []=>rfl
 | u::l=>by
  show yY3 (.raw (.int .u8 (u.toNat:Int))::byI l)=_;rw[xJz,xZf l];rfl
theorem kw (k:Nat):IntKind.u8.wrap ((k:Nat):Int)=((UInt8.ofNat k).toNat:Int):=by
 simp[IntKind.wrap,IntKind.bits,IntKind.signed]
theorem ks8 (k:Nat):Int.fdiv (k:Int) (2 ^ min (Int.toNat 8) 64)=((k / 256:Nat):Int):=by
 rw[show (2:Int) ^ min (Int.toNat 8) 64=((256:Nat):Int) from rfl];exact (Int.ofNat_fdiv k 256).symm
theorem ks16 (k:Nat):Int.fdiv (k:Int) (2 ^ min (Int.toNat 16) 64)=((k / 65536:Nat):Int):=by
 rw[show (2:Int) ^ min (Int.toNat 16) 64=((65536:Nat):Int) from rfl];exact (Int.ofNat_fdiv k 65536).symm
theorem xGk (a b c:Operand):yJx 3 [(0,a),(1,b),(2,c)]=true:=rfl
theorem uWh (ln:Ln)(x:IV)(hx:IsLn ln x)(hl:ln.1.length<=1000000/\ln.2.length<=1000000)(st:ISt) :
  ICall prog gl 112 [x] st (λr st'=>r=.raw (.string (keyB ln))/\st'=st):=by
 have U:=λst=>xV6 gl ln x hx st;have hp1:=λI=>xQ4 gl ln x hx ⟨by omega,by omega⟩ I;obtain⟨t1,t2,rfl,e1,e2⟩:=hx;have J:=λn:Int=>yJ1 prog 3 5 zVi vKz .i64 n;refine ICall.intro (c:=cf prog gl [3] []) func112 rfl (by show _<=30;simp) (by kernel_rfl) ?_;simp only[go_sem,zE];refine λb=>yQ8 λhb=>?_;refine (U _).mono ?_;rintro _ E ⟨rfl,rfl⟩;simp only[go_sem,reduceCtorEq];refine RangeC.intro (plX ln) (plcs ln).length (λk st'=>∃t,st' b=some (.box [.sl t (byI (((plcs ln).take k).flatMap b3))])/\own st' t (3*k) 1 st/\subSt st st') (λ_ _=>False) (by simp only[go_sem]) ?_ ⟨_,ISt.put_same _ _ _,own.nil _ _ _ _ _,yQa hb⟩ ?_ (hp1 _) ?_ (λ_ _ _ h=>h.elim)
 ·rintro k a ⟨p,_,rfl⟩;rfl
 ·rintro k _ E ⟨⟨i,r⟩,hp,rfl⟩ ⟨t,h1,h2,h3⟩;simp only[go_sem,zE,zA,zM,zL,fits,h1,J,show ((0:Int)<=8)=True from eq_true (by omega),show ((0:Int)<=16)=True from eq_true (by omega),ks8,ks16,kw,xGk];have an:k<ln.1.length+ln.2.length:=by rw[<- yUw];exact (lGs hp).1
  have A:(byI (((plcs ln).take k).flatMap b3)).length=3*k:=by
   rw[byI,List.length_map];have:∀l:List (Nat×Bool),(l.flatMap b3).length=3*l.length:=λl=>by
    induction l with
    | nil=>rfl
    | cons a l O=>rw[List.flatMap_cons,lLa,O,List.length_cons];show 3+_=_;omega
   rw[this,List.length_take,yUw];omega
  refine xZh (m:=3) h2 A rfl h3 rfl (by simp[fits,IV.one]) (by simp only;omega) (by omega) λt' D h4 h5 h6=>?_;have h7:D b=some (.box [.sl t (byI (((plcs ln).take k).flatMap b3))]):=h6 b _ h1 λn h=>by cases h
  simp only[go_sem,zE,zL,h7];refine⟨t',?_,?_,yQb h5 hb⟩
  ·rw[yQ7 hp,List.flatMap_append];simp only[byI,List.map_append];rfl
  ·rw[show 3*(k+1)=3*k+3 by omega];exact h4.mono λg hg _=>by
    rw[yQ5 λh=>by rw[h,h7] at hg;cases hg];exact hg
 ·rintro E rr ⟨t,h1,h2,h3⟩;rw[lTl] at h1;simp only[go_sem,zE,zA,zM,zL,h1,fits,yQq,J,kw,yQ4];intro _;have A:(byI ((plcs ln).flatMap b3)).length=3*(plcs ln).length:=by
   rw[byI,List.length_map];have:∀l:List (Nat×Bool),(l.flatMap b3).length=3*l.length:=λl=>by
    induction l with
    | nil=>rfl
    | cons a l O=>rw[List.flatMap_cons,lLa,O,List.length_cons];show 3+_=_;omega
   exact this _
  have am:=yUw ln;refine xZh (m:=1) h2 A rfl h3 rfl (by simp[fits,IV.one]) (by simp only;omega) (by omega) λt' D h4 h5 h6=>?_;have ac:yY3 (byI ((plcs ln).flatMap b3)++[.raw (.int .u8 ((UInt8.ofNat ln.1.length).toNat:Int))])=some (keyL ln):=by
   have:=xZf (keyL ln)
   rwa [keyL,byI,List.map_append] at this
  have aa:¬ keyL ln=[]:=by unfold keyL;simp
  have al:(keyL ln).toArray.size<=281474976710656:=by
   unfold keyL;rw[List.size_toArray,lLa];rw[byI,List.length_map] at A;rw[A];simp only[List.length_cons,List.length_nil];omega
  simp only[go_sem,ac,aa,Option.bind_some];exact yQf h5 ⟨rfl,rfl⟩
theorem wW8 {a b:Ln}(ha:(∀i∈a.1,i<16777216)/\∀i∈a.2,i<16777216)(hb:(∀i∈b.1,i<16777216)/\∀i∈b.2,i<16777216)(hl:a.1.length<256/\b.1.length<256)(h:keyB a=keyB b):a=b:=by
 have h1:keyL a=keyL b:=by
  have:=congrArg (λx:ByteArray=>x.data.toList) h;simpa[keyB] using this
 unfold keyL at h1;have h2:=List.append_inj_left' h1 rfl;have h3:=List.append_inj_right' h1 rfl;have A:∀n,n<16777216->(UInt8.ofNat (n / 65536)).toNat*65536+(UInt8.ofNat (n / 256)).toNat*256+(UInt8.ofNat n).toNat=n:=λn hn=>by
  simp only[UInt8.toNat_ofNat'];omega
 have key:∀(l m:List (Nat×Bool)),(∀p∈l,p.1<16777216)->(∀p∈m,p.1<16777216)->l.flatMap b3=m.flatMap b3->l.map (·.1)=m.map (·.1):=λl=>by
  induction l with
  | nil =>
   intro m _ _ h;cases m with
   | nil=>rfl
   | cons p m=>simp[b3] at h
  | cons p l ih =>
   intro m hl E h;cases m with
   | nil=>simp[b3] at h
   | cons q m =>
    rw[List.flatMap_cons,List.flatMap_cons] at h;simp only[b3,List.cons_append,List.nil_append,List.cons.injEq] at h;obtain⟨e1,e2,e3,h⟩:=h;have U:=A p.1 (hl p (.head _));have n2:=A q.1 (E q (.head _));rw[e1,e2,e3,n2] at U;rw[List.map_cons,List.map_cons,ih m (λx hx=>hl x (.tail _ hx)) (λx hx=>E x (.tail _ hx)) h,U]
 have D:∀c:Ln,(∀i∈c.1,i<16777216)/\(∀i∈c.2,i<16777216)->∀p∈plcs c,p.1<16777216:=λc hc p hp=>by
  rcases List.mem_append.1 hp with hp|hp
  ·obtain⟨i,J,rfl⟩:=List.mem_map.1 hp;exact hc.1 i J
  ·obtain⟨i,J,rfl⟩:=List.mem_map.1 hp;exact hc.2 i J
 have O:=key (plcs a) (plcs b) (D a ha) (D b hb) h2;have E:∀c:Ln,(plcs c).map (·.1)=c.1++c.2:=λc=>by simp[plcs,Function.comp_def]
 rw[E,E] at O;have h5:a.1.length=b.1.length:=by
  have:=congrArg UInt8.toNat (List.cons.inj h3).1;simp only[UInt8.toNat_ofNat'] at this;omega
 exact Prod.ext (List.append_inj_left O h5) (List.append_inj_right O h5)
end Go.Proofs.Tryz
namespace Go.Iv
open Go
theorem ICallV.sub {P:Program}{gl:Nat->Option IV}{f:IV}{args:List IV}{st A:ISt}{K:IV->ISt->Prop}(h:ICallV P gl f args A K)(hs:subSt A st):ICallV P gl f args st K:=by
 intro B X fv rs U E hf hv;obtain⟨J,D⟩:=U.sub (st:=A) (by rw[E];exact hs);refine (h B { X with st:=A } fv rs J rfl (D.v hf) ⟨hv.1,λi r c O hc=>D.v (hv.2 i r c O hc)⟩).mono λv w' he=>?_;obtain⟨X',x,h1,h2,h3,h4,h5⟩:=he;exact⟨X',x,h1,h2,D.trans h3,h4,h5⟩
theorem YieldL.none {P:Program}{gl:Nat->Option IV}{y:IV}{A:Nat->List IV->Prop}{I:Nat->ISt->Prop}{S:ISt->Prop}(h:YieldL P gl y (zW8 A) I S){k:Nat}{a:List IV}{stu:ISt}(hx:A k a)(E:I k stu) :
  ICallV P gl y a stu λr st'=>(r=.raw (.bool true)/\I (k+1) st')\/(r=.raw (.bool false)/\S st') :=
 (h k a (λ_=>Option.none) stu ⟨hx,rfl⟩ (λ_ J=>absurd rfl J) E).mono λr st' D=>D.imp (λ⟨h1,s1,h2,_,O⟩=>⟨h1,O▸h2⟩) id
