/- Walks of the second program: normal, Nor -/
import Derived.Test.YtabhgbojkjcfjaaGreatDoorKT
import Derived.Test.YtabhgbojkjcfjaaGreatDoorKN
set_option linter.all false
open Nat renaming reduceEqDiff → zE,reduceBEq → zB,reduceAdd → zA,reduceMul → zM,reduceLeDiff → zL
namespace Go.Proofs.Tryz
open Go Go.Iv
set_option maxRecDepth 4000
variable (gl:Nat->Option IV)
theorem zK0:yKs 0 []=true:=rfl
theorem xQ4:∀ {l m:Sb}{xs ys:List IV},IsOnes l xs->IsOnes m ys->IsOnes (l++m) (xs++ys)
 | [],m,xs,ys,h,k=>by simp only[IsOnes] at h;subst h;exact k
 | a::l,m,xs,ys,h,k=>by
  simp only[IsOnes] at h;obtain⟨y,zs,rfl,hy,h⟩:=h;exact⟨y,zs++ys,rfl,hy,xQ4 h k⟩
def oneV (p:ByteArray×ByteArray):ByteArray×Tm:=(p.1,.mk true p.2 [])
theorem wQ5 (ar:Ar):yZc (ar.map oneV)=renF ar:=by
 funext n;unfold yZc renF;rw[List.find?_map];simp only[Option.map_map];rfl
theorem vQf {old names:List ByteArray}(h:old.length=names.length){k:Nat}(hk:k<names.length):∃a b,old[names.length-k-1]?=some a/\names[names.length-k-1]?=some b/\(old.zip names).reverse[k]?=some (a,b):=by
 obtain⟨a,ha⟩:=yQ2 (show names.length-k-1<old.length by omega);obtain⟨b,hb⟩:=yQ2 (show names.length-k-1<names.length by omega);refine⟨a,b,ha,hb,?_⟩;rw[List.getElem?_reverse (by rw[List.length_zip];omega),List.length_zip,show min old.length names.length-1-k=names.length-k-1 by omega];rw[List.getElem?_zip_eq_some];exact⟨ha,hb⟩
def RNo (f:Fm):Prop:=∀(x:IV) (_:IsFm f x) (_:f.ok=true) (free fl:List ByteArray) (_:∀x,x∈fl↔x∈free) (old names:List ByteArray) (_:old.length=names.length) (tf to tn:Tag) (_:okEs tf 1) (_:okEs to 1) (_:okEs tn 1)
 (_:fl.length+names.length+f.size<=1000000000) (st:ISt),
 ICall prog gl 188 [x,.sl tf (strI fl),.sl to (strI old),.sl tn (strI names)] st (λr st'=>IsFm (zXa free (old.zip names).reverse f) r/\st'=st)
theorem zUr (op:Nat)(n:ByteArray)(us:List Tm)(sub:List Fm)(IH:∀a∈sub,RNo gl a):RNo gl (.mk op n us sub):=by
 intro x hx hok free fl hfl old names hlen tf to tn htf hto htn hbd st;obtain⟨t1,x1,t2,x2,rfl,hop,ht1,hx1,ht2,hx2⟩:=hx.mk;obtain⟨hok1,hok2,hok3⟩:=yYn hok;simp only[Fm.size] at hbd;have hsl1:=yZl us;have hsl2:=yV8 sub;have hwl:IntKind.i64.wrap ((names.length:Int)-1)=(names.length:Int)-1:=by rw[w64]<;>omega
 have hzl:(old.zip names).reverse.length=names.length:=by rw[List.length_reverse,List.length_zip];omega
 have hzip:(old.zip names).reverse=(old.zip names).reverse:=rfl;have hat:=λk (hk:k<names.length)=>vQf hlen hk;have hsnd:(old.zip names).reverse.map (·.2)=names.reverse:=by rw[List.map_reverse,List.map_snd_zip (by omega)]
 refine ICall.intro (c:=cf prog gl [] [(13,[0,1,3,4,5,2,6,7]),(14,[0,1,3,4,5,2,6,7])]) func188 rfl (by show _<=103;simp) (by kernel_rfl) ?_;simp only[go_sem,zE,yQj,hlen,hwl];intros;refine LoopC.ctr names.length (λk fr st' ds=>(∃tl zl,fr 9=.iv (.sl tl zl)/\IsOnes (((old.zip names).reverse.take k).map oneV) zl/\own st' tl k 4 st/\subSt st st') /\
  fr 1=.iv (.sl tf (strI fl))/\fr 2=.iv (.sl to (strI old))/\fr 3=.iv (.sl tn (strI names))/\fr 4=.box [.raw (.int .u8 op),.raw (.string n),.sl t1 x1,.sl t2 x2]/\fr 8=.box [.raw (.int .u8 0),.raw (.string ⟨#[]⟩),.sl ⟨true,.nil,0⟩ [],.sl ⟨true,.nil,0⟩ []] /\
  fr 10=.iv (.raw (.int .i64 (((names.length-k:Nat):Int)-1)))/\ds=[]) ?_ ?_ ?_
 ·simp only[go_sem,zE];exact⟨_,_,rfl,rfl,own.nil _ _ _ _ _,subSt.refl _⟩
 ·rintro k fr st1 _ hlt ⟨⟨tl,zl,f9,hzv,hown,hsub1⟩,f1,f2,f3,f4,f8,f10,rfl⟩;obtain⟨a,b,ha,hb,hab⟩:=hat k hlt;have hi:(((names.length-k:Nat):Int)-1)=((names.length-k-1:Nat):Int):=by omega
  rw[hi] at f10;have hw:IntKind.i64.wrap (((names.length-k-1:Nat):Int)-1)=((names.length-(k+1):Nat):Int)-1:=by rw[w64]<;>omega
  have hlz:zl.length=k:=by rw[hzv.len,List.length_map,List.length_take];omega
  simp only[go_sem,zE,zA,zM,zL,f2,f3,f9,f10,decide_true,yQ1 hto,yQ1 htn,iNn,yJ6 ha,yJ6 hb,fits,yQ4];refine yZa hown hlz hsub1 rfl (by simp[fits,IV.one]) (by simp only;omega) (by omega) λtg2 st2 hown2 hsub2 _=>?_;simp only[go_sem,zE,f1,f2,f3,f4,f8,f10,hw];refine⟨tg2,_,rfl,?_,hown2,hsub2⟩;rw[yQ5 hab,List.map_append];exact xQ4 hzv ⟨_,[],rfl,⟨_,_,_,_,rfl,_,[],rfl,.inl rfl,rfl⟩,rfl⟩
 ·rintro fr st1 _ ⟨⟨tl,zl,f9,hzv,hown,hsub1⟩,f1,f2,f3,f4,f8,f10,rfl⟩;have htl:=hown.es;rw[<- hzl,lTl] at hzv;have hge:decide ((0:Int)<=((names.length-names.length:Nat):Int)-1)=false:=dEf (by omega);have harl:(old.zip names).reverse.length<=1000000000:=by omega
  have hle:yJl (fl++names)=yJl (free++(old.zip names).reverse.map (·.2)):=zZw λx=>by
   rw[hsnd,List.mem_append,List.mem_append,List.mem_reverse,hfl x]
  generalize har:(old.zip names).reverse=ar at *;simp only[go_sem,zE,zA,zL,f4,f10,hge];refine LoopC.ctr us.length (λk fr st' ds=>(∃tg' ys,fr 11=.box [.raw (.int .u8 op),.raw (.string n),.sl tg' ys,.sl ⟨true,.nil,0⟩ []]/\IsTms (yZq (yZc (ar.map oneV)) (us.take k)) ys/\own st' tg' k 3 st1/\subSt st1 st') /\
   fr 1=.iv (.sl tf (strI fl))/\fr 2=.iv (.sl to (strI old))/\fr 3=.iv (.sl tn (strI names))/\fr 4=.box [.raw (.int .u8 op),.raw (.string n),.sl t1 x1,.sl t2 x2]/\fr 8=.box [.raw (.int .u8 0),.raw (.string ⟨#[]⟩),.sl ⟨true,.nil,0⟩ [],.sl ⟨true,.nil,0⟩ []] /\
   fr 9=.iv (.sl tl zl)/\fr 12=.iv (.raw (.int .i64 k))/\ds=[]) ?_ ?_ ?_
  ·simp only[go_sem,zE,f1,f2,f3,f4,f8,f9];exact⟨⟨_,_,rfl,rfl,own.nil _ _ _ _ _,subSt.refl _⟩,rfl⟩
  ·rintro k fr st2 _ hlt ⟨⟨tg',ys,f11,hys,hown,hsub2⟩,f1,f2,f3,f4,f8,f9,f12,rfl⟩;obtain⟨a,ha⟩:=yQ2 hlt;obtain⟨y,hky,hy⟩:=hx1.get ha;have hmem:=lMg ha;have hcall:=xY0 gl (ar.map oneV) a y hy tl zl htl hzv (by have:=yWq hmem;omega) (by rw[List.length_map];omega) st2;have hlen2:ys.length=k:=by rw[hys.len,yZ2,List.length_take];omega
   have hnext:∀r,IsTm (yKp (yZc (ar.map oneV)) a) r->IsTms (yZq (yZc (ar.map oneV)) (us.take (k+1))) (ys++[r]):=λr hr=>by
    rw[yQ5 ha,yZs];exact hys.append (IsTms.one hr)
   obtain⟨v5,n5,t5,x5,rfl⟩:=hy.agg;simp only[go_sem,zE,zB,zA,f4,f9,f11,f12,hx1.len,lt_i hlt,yQ1 ht1,iNn,hky,fits];intros;refine hcall.mono ?_;rintro r _ ⟨hr,rfl⟩;have hn:=hnext r hr;obtain⟨v6,n6,t6,x6,rfl⟩:=hr.agg;simp only[go_sem,zE,zA,zM,zL,fits,yQ4];refine yZa hown hlen2 hsub2 rfl (by simp[fits,IV.one]) (by simp only;omega) (by omega) λtg2 st3 hown2 hsub3 _=>?_;simp only[go_sem,zE,zA,zL,f1,f2,f3,f4,f8,f9,f11,f12,yQa hlt (show us.length<=281474976710656 by omega)];exact⟨tg2,_,rfl,hn,hown2,hsub3⟩
  rintro fr st2 _ ⟨⟨ta,xa,f11,hxa,hown2,hsub2⟩,f1,f2,f3,f4,f8,f9,f12,rfl⟩;rw[lTl,wQ5] at hxa;have hta:=hown2.es;simp only[go_sem,zE,zA,zL,f4,f12,hx1.len,yQk (nLi _)];intros;refine (xJs gl op n _ _ _ _ _).mono ?_;rintro _ st2 ⟨rfl,rfl⟩;cases hq:isQ op
  ·have hzip:(old.zip names).reverse=ar:=har;simp only[go_sem];refine LoopC.ctr sub.length (λk fr st' ds=>(∃tg' ys,fr 11=.box [.raw (.int .u8 op),.raw (.string n),.sl ta xa,.sl tg' ys]/\IsFms (yJu free (ar) (sub.take k)) ys/\own st' tg' k 4 st2/\subSt st2 st') /\
    fr 1=.iv (.sl tf (strI fl))/\fr 2=.iv (.sl to (strI (old)))/\fr 3=.iv (.sl tn (strI (names)))/\fr 4=.box [.raw (.int .u8 op),.raw (.string n),.sl t1 x1,.sl t2 x2]/\fr 8=.box [.raw (.int .u8 0),.raw (.string ⟨#[]⟩),.sl ⟨true,.nil,0⟩ [],.sl ⟨true,.nil,0⟩ []] /\
    fr 13=.iv (.raw (.int .i64 k))/\ds=[]) ?_ ?_ ?_
   ·simp only[go_sem,zE,f1,f2,f3,f4,f8,f11];exact⟨⟨_,_,rfl,rfl,own.nil _ _ _ _ _,subSt.refl _⟩,rfl⟩
   ·rintro k fr st9 _ hlt ⟨⟨tg',ys,f11,hys,hown,hsub9⟩,f1,f2,f3,f4,f8,f13,rfl⟩;obtain⟨a,ha⟩:=yQ2 hlt;obtain⟨y,hky,hy⟩:=hx2.get ha;have hmem:=lMg ha;obtain⟨h1,h2⟩:=yXh ha;have hcall:=IH a hmem y hy (yZp hok2 hmem) free fl hfl (old) (names) (by first|exact hlen|simp[hlen]) tf to tn htf hto htn (by first|omega|(simp only[lLa,List.length_cons,List.length_nil];omega)) st9;rw[hzip] at hcall;have hlen2:ys.length=k:=by rw[hys.len,yZr,List.length_take];omega
    have hnext:∀r,IsFm (zXa free (ar) a) r->IsFms (yJu free (ar) (sub.take (k+1))) (ys++[r]):=λr hr=>by
     rw[yQ5 ha,yJ7];exact hys.append (IsFms.one hr)
    obtain⟨o5,n5,t5,x5,t6,x6,rfl⟩:=hy.agg;simp only[go_sem,zE,zB,zA,f1,f2,f3,f4,f11,f13,hx2.len,lt_i hlt,yQ1 ht2,iNn,hky,fits];intros;refine hcall.mono ?_;rintro r _ ⟨hr,rfl⟩;have hn:=hnext r hr;obtain⟨o7,n7,t7,x7,t8,x8,rfl⟩:=hr.agg;simp only[go_sem,zE,zA,zM,zL,fits,yQ4];refine yZa hown hlen2 hsub9 rfl (by simp[fits,IV.one]) (by simp only;omega) (by omega) λtg2 st10 hown10 hsub10 _=>?_;simp only[go_sem,zE,zA,zL,f1,f2,f3,f4,f8,f11,f13,yQa hlt (show sub.length<=281474976710656 by omega)];exact⟨tg2,_,rfl,hn,hown10,hsub10⟩
   rintro fr st9 _ ⟨⟨tb,xb,f11,hxb,hown,hsub9⟩,f1,f2,f3,f4,f8,f13,rfl⟩;rw[lTl] at hxb;simp only[go_sem,zE,zA,zL,f4,f8,f11,f13,hx2.len,yQk (nLi _)];intros;refine yQ9 ((hsub1.trans hsub2).trans hsub9) ⟨?_,rfl⟩;exact⟨ta,xa,tb,xb,by simp[hq],hop,hta,hxa,hown.es,by simpa[hq] using hxb⟩
  ·simp only[go_sem,zE,zA,zM,zL,f1,zK0];refine yKk (s:=1) (S0:=st2) (own.full st2 st2 0 1) rfl (yQj fl) (subSt.refl st2) rfl (by simp[fits,IV.one,strI]) (by simp only;omega) (by omega) λtg3 st3 hown3 hsub3 _=>?_;simp only[go_sem,zE,zA,f3];refine yKk hown3 (by simp[yQj]) (yQj names) hsub3 rfl (by simp[fits,IV.one,strI]) (by simp only;omega) (by omega) λtg4 st4 hown4 hsub4 _=>?_
   try simp only[List.nil_append]
   rw[<- yXv];simp only[go_sem,zA];refine (wJd gl tg4 hown4.es (fl++names) (by rw[lLa];omega) _).mono ?_;rintro _ st4 ⟨rfl,rfl⟩;rw[hle];simp only[go_sem,zE,zA,zM,zL,f2,f4,f11,fits,zK0,yQ4];refine yKk (s:=1) (S0:=st4) (own.full st4 st4 0 1) rfl (yQj old) (subSt.refl st4) rfl (by simp[fits,IV.one,strI]) (by simp only;omega) (by omega) λtg5 st5 hown5 hsub5 _=>?_;simp only[go_sem,zE,zA];refine yZa hown5 (by simp[yQj]) hsub5 rfl (by simp[fits,IV.one]) (by simp only;omega) (by omega) λtg6 st6 hown6 hsub6 _=>?_;simp only[go_sem,zE,zA,zM,zL,f3,fits,zK0,yQ4];refine yKk (s:=1) (S0:=st6) (own.full st6 st6 0 1) rfl (yQj names) (subSt.refl st6) rfl (by simp[fits,IV.one,strI]) (by simp only;omega) (by omega) λtg7 st7 hown7 hsub7 _=>?_;simp only[go_sem,zE,zA];refine yZa hown7 (by simp[yQj]) hsub7 rfl (by simp[fits,IV.one]) (by simp only;omega) (by omega) λtg8 st8 hown8 hsub8 _=>?_;generalize hnew:yJl (free++ar.map (·.2))=new at *;have e1:strI old++[.raw (.string n)]=strI (old++[n]):=by rw[yXv];rfl
   have e2:strI names++[.raw (.string new)]=strI (names++[new]):=by rw[yXv];rfl
   try simp only[List.nil_append]
   rw[e1,e2];have hzip:((old++[n]).zip (names++[new])).reverse=(n,new)::ar:=by
    rw[List.zip_append hlen,List.reverse_append,har];rfl
   simp only[go_sem];refine LoopC.ctr sub.length (λk fr st' ds=>(∃tg' ys,fr 11=.box [.raw (.int .u8 op),.raw (.string new),.sl ta xa,.sl tg' ys]/\IsFms (yJu free (((n,new)::ar)) (sub.take k)) ys/\own st' tg' k 4 st8/\subSt st8 st') /\
    fr 1=.iv (.sl tf (strI fl))/\fr 2=.iv (.sl tg6 (strI (old++[n])))/\fr 3=.iv (.sl tg8 (strI (names++[new])))/\fr 4=.box [.raw (.int .u8 op),.raw (.string n),.sl t1 x1,.sl t2 x2]/\fr 8=.box [.raw (.int .u8 0),.raw (.string ⟨#[]⟩),.sl ⟨true,.nil,0⟩ [],.sl ⟨true,.nil,0⟩ []] /\
    fr 13=.iv (.raw (.int .i64 k))/\ds=[]) ?_ ?_ ?_
   ·simp only[go_sem,zE,f1,f4,f8];exact⟨⟨_,_,rfl,rfl,own.nil _ _ _ _ _,subSt.refl _⟩,rfl⟩
   ·rintro k fr st9 _ hlt ⟨⟨tg',ys,f11,hys,hown,hsub9⟩,f1,f2,f3,f4,f8,f13,rfl⟩;obtain⟨a,ha⟩:=yQ2 hlt;obtain⟨y,hky,hy⟩:=hx2.get ha;have hmem:=lMg ha;obtain⟨h1,h2⟩:=yXh ha;have hcall:=IH a hmem y hy (yZp hok2 hmem) free fl hfl (old++[n]) (names++[new]) (by first|exact hlen|simp[hlen]) tf tg6 tg8 htf hown6.es hown8.es (by first|omega|(simp only[lLa,List.length_cons,List.length_nil];omega)) st9;rw[hzip] at hcall;have hlen2:ys.length=k:=by rw[hys.len,yZr,List.length_take];omega
    have hnext:∀r,IsFm (zXa free (((n,new)::ar)) a) r->IsFms (yJu free (((n,new)::ar)) (sub.take (k+1))) (ys++[r]):=λr hr=>by
     rw[yQ5 ha,yJ7];exact hys.append (IsFms.one hr)
    obtain⟨o5,n5,t5,x5,t6,x6,rfl⟩:=hy.agg;simp only[go_sem,zE,zB,zA,f1,f2,f3,f4,f11,f13,hx2.len,lt_i hlt,yQ1 ht2,iNn,hky,fits];intros;refine hcall.mono ?_;rintro r _ ⟨hr,rfl⟩;have hn:=hnext r hr;obtain⟨o7,n7,t7,x7,t8,x8,rfl⟩:=hr.agg;simp only[go_sem,zE,zA,zM,zL,fits,yQ4];refine yZa hown hlen2 hsub9 rfl (by simp[fits,IV.one]) (by simp only;omega) (by omega) λtg2 st10 hown10 hsub10 _=>?_;simp only[go_sem,zE,zA,zL,f1,f2,f3,f4,f8,f11,f13,yQa hlt (show sub.length<=281474976710656 by omega)];exact⟨tg2,_,rfl,hn,hown10,hsub10⟩
   rintro fr st9 _ ⟨⟨tb,xb,f11,hxb,hown,hsub9⟩,f1,f2,f3,f4,f8,f13,rfl⟩;rw[lTl] at hxb;simp only[go_sem,zE,zA,zL,f4,f8,f11,f13,hx2.len,yQk (nLi _)];intros;refine yQ9 (((((hsub1.trans hsub2).trans hsub4).trans hsub6).trans hsub8).trans hsub9) ⟨?_,rfl⟩;exact⟨ta,xa,tb,xb,by simp[hq,hnew],hop,hta,hxa,hown.es,by simpa[hq,hnew] using hxb⟩
theorem zJj:∀(k:Nat)(t:Fm),SizeOf.sizeOf t<k->RNo gl t
 | 0,f,h=>by omega
 | k+1,.mk o n us sub,h=>zUr gl o n us sub (λa ha=>zJj k a (by
   have:=lSm ha;simp at h;omega))
theorem xUh (t:Fm):RNo gl t:=zJj gl _ t (Nat.lt_succ_self _)
theorem xUl (f:Fm)(x:IV)(hx:IsFm f x)(hs:f.size<=1000000)(st:ISt) :
  ICall prog gl 139 [x] st (FE (yXe f).1 (yXe f).2 st):=by
 have hright:=λst=>zXf gl f x hx (by omega) st;have hfree:=λst=>wYs gl f x hx (by omega) st;have hfl:=zWm f;have hnorm:=λhok fl hfl' tf to tn htf hto htn hb st=>xUh gl f x hx hok (frF f) fl hfl' [] [] rfl tf to tn htf hto htn hb st;obtain⟨o0,n0,ta,xa,tb,xb,rfl⟩:=hx.agg;refine iI func139 ?_;simp only[go_sem,zE,zA,zL];refine (hright _).mono ?_;rintro _ st ⟨rfl,rfl⟩;cases hr:f.right
 ·have hE:yXe f=(fm0,2):=by simp[yXe,hr]
  rw[hE];simp only[go_sem,zE,zA,zL];exact yQ0 ⟨_,rfl,⟨_,[],_,[],rfl,by omega,.inl rfl,rfl,.inl rfl,rfl⟩,rfl⟩
 have hN:yXe f=(zXa (frF f) [] f,0):=by simp[yXe,hr,yXk]
 rw[hN];simp only[go_sem,zE,zA,zL];refine (hfree _).mono ?_;rintro _ st ⟨ti,inside,rfl,hti,hin,rfl⟩;have hinl:=hin.len;simp only[go_sem,zE,zA];refine (hnorm (yJr hr).1 inside hin.2 ti _ _ hti (.inl rfl) (.inl rfl) (by simp only[List.length_nil];omega) _).mono ?_;rintro z st ⟨hz,rfl⟩;have hz':IsFm (zXa (frF f) [] f) z:=hz;have hz0:=hz';obtain⟨o5,n5,t5,x5,t6,x6,rfl⟩:=hz'.agg;simp only[go_sem,zE,zA,zL];exact yQ0 ⟨_,rfl,hz0,rfl⟩
