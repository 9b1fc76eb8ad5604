/- Walks of the second program: insert, mer -/
import Derived.Test.YtnknaopjcifoaaaGreatDoorLA
import Derived.Test.YtnknaopjcifoaaaGreatDoorKB
import Derived.Test.YtnknaopjcifoaaaGreatDoorKQ
set_option linter.all false
open Nat renaming reduceEqDiff → zE,reduceBEq → zB,reduceAdd → zA,reduceMul → zM,reduceLeDiff → zL
namespace Go.Proofs.Tryz
open Go Go.Iv
set_option maxRecDepth 4000
variable (gl:Nat->Option IV)
theorem SortedOf.congr {L M r:List ByteArray}(h:SortedOf L r)(e:∀x,x∈L↔x∈M):SortedOf M r:=⟨h.1,λx=>(h.2 x).trans (e x)⟩
theorem SortedOf.len {L r:List ByteArray}(h:SortedOf L r):r.length<=L.length:=zZ0 h.1 λx hx=>(h.2 x).1 hx
theorem wWp {L l:List ByteArray}{s:ByteArray}{k:Nat}(hl:SortedOf L l)(hs:s ∉ l)(hlt:∀x∈l.take k,ltN x s)(hge:∀y,l[k]?=some y->¬ ltN y s):SortedOf (L++[s]) (l.take k++[s]++l.drop k):=by
 have hp:(l.take k++l.drop k).Pairwise ltN:=by rw[List.take_append_drop];exact hl.1
 obtain⟨p1,p2,p3⟩:=List.pairwise_append.1 hp;have hgt:∀y∈l.drop k,ltN s y:=by
  cases hd:l.drop k with
  | nil=>intro y hy;cases hy
  | cons a m =>
   have ha:l[k]?=some a:=by
    have:=congrArg (·[0]?) hd;simpa[List.getElem?_drop] using this
   have hsa:ltN s a:=xQ5 (hge a ha) (λe=>hs (e▸lMg ha));rw[hd] at p2;obtain⟨q1,_⟩:=List.pairwise_cons.1 p2;intro y hy;rcases List.mem_cons.1 hy with rfl|hy
   ·exact hsa
   ·exact xQ4 hsa (q1 y hy)
 refine⟨?_,λx=>?_⟩
 ·rw[List.append_assoc];refine List.pairwise_append.2 ⟨p1,List.pairwise_cons.2 ⟨λy hy=>hgt y hy,p2⟩,λa ha b hb=>?_⟩;rcases List.mem_cons.1 hb with rfl|hb
  ·exact hlt a ha
  ·exact p3 a ha b hb
 ·have hm:x∈l↔x∈l.take k\/x∈l.drop k:=by
   conv=>lhs;rw[<- List.take_append_drop k l]
   exact List.mem_append
  simp only[List.mem_append,List.mem_singleton,<- hl.2 x,hm];constructor
  ·rintro ((h|h)|h)
   ·exact .inl (.inl h)
   ·exact .inr h
   ·exact .inl (.inr h)
  ·rintro ((h|h)|h)
   ·exact .inl (.inl h)
   ·exact .inr h
   ·exact .inl (.inr h)
def zV0 (L:List ByteArray)(st:ISt)(r:IV)(st':ISt):Prop:=∃tg l,r=.sl tg (strI l)/\okEs tg 1/\SortedOf L l/\st'=st
theorem zU1 (l:List ByteArray)(k:Nat):(strI l).drop k=strI (l.drop k):=by simp[strI]
theorem zU0 (l:List ByteArray)(k:Nat):(strI l).take k=strI (l.take k):=by simp[strI]
theorem zJ8 {k n:Nat}(h:k<=n):yXn (some (k:Int)) none n=some (k,n):=by
 unfold yXn;rw[if_pos]
 ·simp
 ·simp;omega
theorem xQv (l:List ByteArray):(strI l).all (fits false 1)=true:=by simp[fits,IV.one,strI]
theorem zXl (L l:List ByteArray)(tg:Tag)(htg:okEs tg 1)(hl:SortedOf L l)(hlen:L.length<=1099511627776)(s:ByteArray)(st:ISt) :
  ICall prog gl 196 [.sl tg (strI l),.raw (.string s)] st (zV0 (L++[s]) st):=by
 have hll:=hl.len;refine ICall.intro (c:=cf prog gl [] [(8,[0,1,2,4,5,6,7,3,8,9])]) func196 rfl (by show _<=41;simp) (by kernel_rfl) ?_;simp only[go_sem,zE,zA,reduceCtorEq];refine (xGm gl tg l s htg (by omega) _).mono ?_;rintro _ st ⟨rfl,rfl⟩;cases hs:hasB l s
 case true =>
  simp only[go_sem,reduceCtorEq];exact yQ0 ⟨tg,l,rfl,htg,hl.congr (λx=>by
   simp only[List.mem_append,List.mem_singleton];exact⟨.inl,λh=>h.elim id λe=>e▸(hl.2 s).1 (zK4.1 hs)⟩),rfl⟩
 have hsl:=zWk.1 hs;simp only[go_sem];refine LoopC.ctr l.length (λk fr st' ds=>(∃t5,fr 5=.iv (.sl t5 (strI (l.take k)))/\own st' t5 k 1 st/\subSt st st')/\(∀x∈l.take k,ltN x s)/\fr 0=.iv (.sl tg (strI l))/\fr 1=.iv (.raw (.string s))/\fr 6=.iv (.raw (.int .i64 k))/\ds=[]) ?_ ?_ ?_
 ·simp only[go_sem,zE,reduceCtorEq];exact⟨⟨_,rfl,own.nil _ _ _ _ _,subSt.refl _⟩,(by intro x hx;cases hx),rfl⟩
 ·rintro k fr st1 _ hlt ⟨⟨t5,f5,hown,hsub⟩,hall,f0,f1,f6,rfl⟩;obtain⟨a,ha⟩:=yQ3 hlt;cases hb:Op.bytesLess a.data.toList s.data.toList
  ·simp only[go_sem,zE,zA,zM,zL,reduceCtorEq,f0,f1,f5,f6,yQs,lt_i hlt,yQ1 htg,iNn,yK1 ha,hb];intros;have hge:∀y,l[k]?=some y->¬ ltN y s:=λy hy=>by
    rw[ha] at hy;cases hy;intro h;rw[zXk.2 h] at hb;cases hb
   have hk0:(l.take (k)).length=k:=by rw[List.length_take];omega
   have hd0:(l.drop (k)).take (l.length-k)=l.drop (k):=List.take_of_length_le (by rw[List.length_drop];omega);simp only[go_sem,yQ2,hk0,zJ8 (show k<=l.length by omega)];refine yX9 hown (by rw[yQs];exact hk0) hsub rfl (by simp[fits,IV.one]) (by simp only;omega) (by omega) λtg2 st2 hown2 hsub2 _=>?_;simp only[go_sem,zE,zA,zU1,zU0,hd0];refine yG7 hown2 (by rw[lLa,yQs,hk0];rfl) (yQs _) hsub2 rfl (xQv _) (by simp only[List.length_drop];omega) (by simp only[List.length_drop];omega) λtg3 st3 hown3 hsub3 _=>?_;simp only[go_sem];exact yQa hsub3 ⟨tg3,l.take (k)++[s]++l.drop (k),by simp only[yVm];rfl,hown3.es,wWp hl hsl hall hge,rfl⟩
  ·simp only[go_sem,zE,zA,zM,zL,reduceCtorEq,f0,f1,f5,f6,yQs,lt_i hlt,yQ1 htg,iNn,yK1 ha,hb,yQ2];intros;refine yX9 hown (by simp[yQs];omega) hsub rfl (by simp[fits,IV.one]) (by simp only;omega) (by omega) λtg2 st2 hown2 hsub2 _=>?_;simp only[go_sem,zE,reduceCtorEq,f0,f1,f6,yQ9 hlt (show l.length<=281474976710656 by omega)];refine⟨⟨tg2,by rw[yQ5 ha,yVm];rfl,hown2,hsub2⟩,λx hx=>?_⟩;rw[yQ5 ha,List.mem_append,List.mem_singleton] at hx;rcases hx with hx|rfl
   ·exact hall x hx
   ·exact zXk.1 hb
 ·rintro fr st1 _ ⟨⟨t5,f5,hown,hsub⟩,hall,f0,f1,f6,rfl⟩;simp only[go_sem,zE,zA,zM,zL,reduceCtorEq,f0,f1,f5,f6,yQs,yQj (nLi _)];intros;have hge:∀y,l[l.length]?=some y->¬ ltN y s:=λy hy=>by simp at hy
  have hk0:(l.take (l.length)).length=l.length:=by rw[List.length_take];omega
  have hd0:(l.drop (l.length)).take (l.length-l.length)=l.drop (l.length):=List.take_of_length_le (by rw[List.length_drop];omega);simp only[go_sem,yQ2,hk0,zJ8 (show l.length<=l.length by omega),yQ1 htg];refine yX9 hown (by rw[yQs];exact hk0) hsub rfl (by simp[fits,IV.one]) (by simp only;omega) (by omega) λtg2 st2 hown2 hsub2 _=>?_;simp only[go_sem,zE,zA,zU1,zU0,hd0];refine yG7 hown2 (by rw[lLa,yQs,hk0];rfl) (yQs _) hsub2 rfl (xQv _) (by simp only[List.length_drop];omega) (by simp only[List.length_drop];omega) λtg3 st3 hown3 hsub3 _=>?_;simp only[go_sem];exact yQa hsub3 ⟨tg3,l.take (l.length)++[s]++l.drop (l.length),by simp only[yVm];rfl,hown3.es,wWp hl hsl hall hge,rfl⟩
theorem zG0 (L a:List ByteArray)(ta:Tag)(hta:okEs ta 1)(ha:SortedOf L a)(b:List ByteArray)(tb:Tag)(htb:okEs tb 1)(hlen:L.length+b.length<=1099511627776)(st:ISt) :
  ICall prog gl 193 [.sl ta (strI a),.sl tb (strI b)] st (zV0 (L++b) st):=by
 refine iI func193 ?_;simp only[go_sem];refine LoopC.ctr b.length (λk fr st' ds=>(∃t0 r,fr 0=.iv (.sl t0 (strI r))/\okEs t0 1/\SortedOf (L++b.take k) r)/\fr 1=.iv (.sl tb (strI b))/\fr 5=.iv (.raw (.int .i64 k))/\st'=st/\ds=[]) ?_ ?_ ?_
 ·simp only[go_sem,zE,reduceCtorEq];exact⟨⟨ta,a,rfl,hta,by simpa using ha⟩,rfl⟩
 ·rintro k fr st _ hlt ⟨⟨t0,r,f0,ht0,hr⟩,f1,f5,rfl,rfl⟩;obtain⟨x,hx⟩:=yQ3 hlt;simp only[go_sem,zE,zA,reduceCtorEq,f0,f1,f5,yQs,lt_i hlt,yQ1 htb,iNn,yK1 hx,fits];intros;refine (zXl gl _ r t0 ht0 hr (by simp only[lLa,List.length_take];omega) x _).mono ?_;rintro _ st ⟨t1,r1,rfl,ht1,hr1,rfl⟩;simp only[go_sem,zE,reduceCtorEq,f1,f5,yQ9 hlt (show b.length<=281474976710656 by omega)];exact⟨t1,r1,rfl,ht1,by rw[yQ5 hx,<- List.append_assoc];exact hr1⟩
 ·rintro fr st _ ⟨⟨t0,r,f0,ht0,hr⟩,f1,f5,rfl,rfl⟩;rw[lTl] at hr;simp only[go_sem,zE,reduceCtorEq,f0,f1,f5,yQs,yQj (nLi _)];intros;exact yQ0 ⟨t0,r,rfl,ht0,hr,rfl⟩
def RTq (t:Tm):Prop:=∀(x:IV) (_:IsTm t x) (_:t.size<=1000000000) (st:ISt),ICall prog gl 194 [x] st (zV0 (yQk t) st)
theorem zVc (v:Bool)(n:ByteArray)(us:List Tm)(IH:∀a∈us,RTq gl a):RTq gl (.mk v n us):=by
 intro x hx hsz st;obtain⟨tg,xs,rfl,htg,hxs⟩:=hx.mk;simp only[Tm.size] at hsz;have hsl:=yXz us;refine iI func194 ?_;cases v
 ·simp only[go_sem,zE];refine LoopC.ctr us.length (λk fr st' ds=>(∃t0 r,fr 3=.iv (.sl t0 (strI r))/\okEs t0 1/\SortedOf (([]:List ByteArray)++yQg (us.take k)) r)/\fr 1=.box [.raw (.bool false),.raw (.string n),.sl tg xs]/\fr 4=.iv (.raw (.int .i64 k))/\st'=st/\ds=[]) ?_ ?_ ?_
  ·simp only[go_sem,zE];exact⟨⟨_,_,rfl,.inl rfl,List.Pairwise.nil,λx=>by simp[yQg]⟩,rfl⟩
  ·rintro k fr st _ hlt ⟨⟨t0,r,f3,ht0,hr⟩,f1,f4,rfl,rfl⟩;obtain⟨a,ha⟩:=yQ3 hlt;obtain⟨y,hky,hy⟩:=hxs.get ha;obtain⟨h1,h2⟩:=yZm ha;have b2:=yJe (us.take k);have b4:=yKm a;have hcall:=IH a (lMg ha) y hy (by omega) st;obtain⟨v5,n5,t5,x5,rfl⟩:=hy.agg;simp only[go_sem,zE,zB,zA,f1,f3,f4,hxs.len,lt_i hlt,fits,yQ1 htg,iNn,hky];intros;refine hcall.mono ?_;rintro _ st ⟨t1,r1,rfl,ht1,hr1,rfl⟩;have b5:=hr1.len;simp only[go_sem,zE,zA];refine (zG0 gl _ r t0 ht0 hr r1 t1 ht1 (by simp only[lLa,List.length_nil];omega) _).mono ?_;rintro _ st ⟨t2,r2,rfl,ht2,hr2,rfl⟩;simp only[go_sem,zE,f1,f4,yQ9 hlt (show us.length<=281474976710656 by omega)];refine⟨t2,r2,rfl,ht2,hr2.congr λx=>?_⟩;rw[yQ5 ha,yZv];simp[List.mem_append,yQg,hr1.2 x]
  ·rintro fr st _ ⟨⟨t0,r,f3,ht0,hr⟩,f1,f4,rfl,rfl⟩;rw[lTl] at hr;simp only[go_sem,zE,f1,f3,f4,hxs.len,yQj (nLi _)];intros;exact yQ0 ⟨t0,r,rfl,ht0,hr,rfl⟩
 ·simp only[go_sem,zE,zA];refine (zXl gl [] [] ⟨true,.nil,0⟩ (.inl rfl) ⟨List.Pairwise.nil,λx=>Iff.rfl⟩ (by simp) n _).mono ?_;rintro _ st ⟨t3,r3,rfl,ht3,hr3,rfl⟩;simp only[go_sem];refine LoopC.ctr us.length (λk fr st' ds=>(∃t0 r,fr 3=.iv (.sl t0 (strI r))/\okEs t0 1/\SortedOf ([n]++yQg (us.take k)) r)/\fr 1=.box [.raw (.bool true),.raw (.string n),.sl tg xs]/\fr 4=.iv (.raw (.int .i64 k))/\st'=st/\ds=[]) ?_ ?_ ?_
  ·simp only[go_sem,zE];exact⟨⟨_,_,rfl,ht3,by simpa[yQg] using hr3⟩,rfl⟩
  ·rintro k fr st _ hlt ⟨⟨t0,r,f3,ht0,hr⟩,f1,f4,rfl,rfl⟩;obtain⟨a,ha⟩:=yQ3 hlt;obtain⟨y,hky,hy⟩:=hxs.get ha;obtain⟨h1,h2⟩:=yZm ha;have b2:=yJe (us.take k);have b4:=yKm a;have hcall:=IH a (lMg ha) y hy (by omega) st;obtain⟨v5,n5,t5,x5,rfl⟩:=hy.agg;simp only[go_sem,zE,zB,zA,f1,f3,f4,hxs.len,lt_i hlt,fits,yQ1 htg,iNn,hky];intros;refine hcall.mono ?_;rintro _ st ⟨t1,r1,rfl,ht1,hr1,rfl⟩;have b5:=hr1.len;simp only[go_sem,zE,zA];refine (zG0 gl _ r t0 ht0 hr r1 t1 ht1 (by simp only[lLa,List.length_cons,List.length_nil];omega) _).mono ?_;rintro _ st ⟨t2,r2,rfl,ht2,hr2,rfl⟩;simp only[go_sem,zE,f1,f4,yQ9 hlt (show us.length<=281474976710656 by omega)];refine⟨t2,r2,rfl,ht2,hr2.congr λx=>?_⟩;rw[yQ5 ha,yZv];simp[List.mem_append,yQg,hr1.2 x]
  ·rintro fr st _ ⟨⟨t0,r,f3,ht0,hr⟩,f1,f4,rfl,rfl⟩;rw[lTl] at hr;simp only[go_sem,zE,f1,f3,f4,hxs.len,yQj (nLi _)];intros;exact yQ0 ⟨t0,r,rfl,ht0,hr,rfl⟩
theorem zQ5:∀(k:Nat)(t:Tm),SizeOf.sizeOf t<k->RTq gl t
 | 0,f,h=>by omega
 | k+1,.mk v n us,h=>zVc gl v n us (λa ha=>zQ5 k a (by
   have:=lSm ha;simp at h;omega))
theorem zJj (t:Tm):RTq gl t:=zQ5 gl _ t (Nat.lt_succ_self _)
theorem xJm (op:Nat)(n:ByteArray)(t t':Tag)(xs ys:List IV)(st:ISt) :
  ICall prog gl 195 [.agg [.raw (.int .u8 op),.raw (.string n),.sl t xs,.sl t' ys]] st (λx st'=>x=.raw (.bool (isQ op))/\st'=st):=by
 refine iI func195 ?_;by_cases h8:op=8
 ·simp only[go_sem,zE,zA,show decide ((op:Int)=8)=true from dEt (by omega)];exact yQ0 ⟨by simp[isQ,h8],rfl⟩
 ·have d8:decide ((op:Int)=8)=false:=dEf (by omega);by_cases h9:op=9
  ·simp only[go_sem,zE,zA,d8,show decide ((op:Int)=9)=true from dEt (by omega)];exact yQ0 ⟨by simp[isQ,h9],rfl⟩
  ·simp only[go_sem,zE,zA,d8,show decide ((op:Int)=9)=false from dEf (by omega)];exact yQ0 ⟨by simp[isQ,h8,h9],rfl⟩
def RFr (f:Fm):Prop:=∀(x:IV) (_:IsFm f x) (_:f.size<=1000000000) (st:ISt),ICall prog gl 159 [x] st (zV0 (frF f) st)
theorem xYd (op:Nat)(n:ByteArray)(us:List Tm)(sub:List Fm)(IH:∀a∈sub,RFr gl a):RFr gl (.mk op n us sub):=by
 intro x hx hsz st;obtain⟨t1,x1,t2,x2,rfl,ho,ht1,hx1,ht2,hx2⟩:=hx.mk;simp only[Fm.size] at hsz;have hsl:=yZn sub;have hul:=yXz us;obtain⟨G,hG0⟩:∃G:List ByteArray->List ByteArray,G=λL=>if isQ op then L.filter (λx=>!decide (x=n)) else L:=⟨_,rfl⟩
 have hG:∀L x,x∈G L↔x∈L/\¬ (isQ op=true/\x=n):=λL x=>by
  rw[hG0];cases isQ op<;>simp
 have hGl:∀L,(G L).length<=L.length:=λL=>by
  rw[hG0];cases isQ op
  ·simp
  ·simp only[if_true];exact List.length_filter_le _ _
 have hfin:∀x,x∈yQg us++G (frFs sub)↔x∈frF (.mk op n us sub):=λx=>by
  simp only[frF,List.mem_append,hG];cases isQ op<;>simp
 have bu:=yJe us;refine iI func159 ?_;simp only[go_sem];refine LoopC.ctr us.length (λk fr st' ds=>(∃t0 r,fr 3=.iv (.sl t0 (strI r))/\okEs t0 1/\SortedOf (yQg (us.take k)) r)/\fr 1=.box [.raw (.int .u8 op),.raw (.string n),.sl t1 x1,.sl t2 x2]/\fr 4=.iv (.raw (.int .i64 k))/\st'=st/\ds=[]) ?_ ?_ ?_
 ·simp only[go_sem,zE];exact⟨⟨_,[],rfl,.inl rfl,List.Pairwise.nil,λx=>by simp[yQg]⟩,rfl⟩
 ·rintro k fr st _ hlt ⟨⟨t0,r,f3,ht0,hr⟩,f1,f4,rfl,rfl⟩;obtain⟨a,ha⟩:=yQ3 hlt;obtain⟨y,hky,hy⟩:=hx1.get ha;obtain⟨h1,h2⟩:=yZm ha;have b2:=yJe (us.take k);have b4:=yKm a;have hcall:=zJj gl a y hy (by omega) st;obtain⟨v5,n5,t5,x5,rfl⟩:=hy.agg;simp only[go_sem,zE,zB,zA,f1,f3,f4,hx1.len,lt_i hlt,fits,yQ1 ht1,iNn,hky];intros;refine hcall.mono ?_;rintro _ st ⟨t3,r1,rfl,ht3,hr1,rfl⟩;have b5:=hr1.len;simp only[go_sem,zE,zA];refine (zG0 gl _ r t0 ht0 hr r1 t3 ht3 (by omega) _).mono ?_;rintro _ st ⟨t4,r2,rfl,ht4,hr2,rfl⟩;simp only[go_sem,zE,f1,f4,yQ9 hlt (show us.length<=281474976710656 by omega)];refine⟨t4,r2,rfl,ht4,hr2.congr λx=>?_⟩;rw[yQ5 ha,yZv];simp[List.mem_append,yQg,hr1.2 x]
 ·rintro fr st _ ⟨⟨t0,r,f3,ht0,hr⟩,f1,f4,rfl,rfl⟩;rw[lTl] at hr;simp only[go_sem,zE,f1,f4,hx1.len,yQj (nLi _)];intros;refine LoopC.ctr sub.length (λk fr st' ds=>(∃t0 r,fr 3=.iv (.sl t0 (strI r))/\okEs t0 1/\SortedOf (yQg us++G (frFs (sub.take k))) r)/\fr 1=.box [.raw (.int .u8 op),.raw (.string n),.sl t1 x1,.sl t2 x2]/\fr 5=.iv (.raw (.int .i64 k))/\st'=st/\ds=[]) ?_ ?_ ?_
  ·simp only[go_sem,zE,f1,f3];exact⟨⟨t0,r,rfl,ht0,hr.congr λx=>by simp[hG,frFs]⟩,rfl⟩
  ·rintro k fr st _ hlt ⟨⟨t0,r,f3,ht0,hr⟩,f1,f5,rfl,rfl⟩;obtain⟨a,ha⟩:=yQ3 hlt;obtain⟨y,hky,hy⟩:=hx2.get ha;obtain⟨h1,h2⟩:=yQu ha;have b2:=zG8 (sub.take k);have b4:=zKa a;have hcall:=IH a (lMg ha) y hy (by omega) st;obtain⟨o5,n5,t5,x5,t6,x6,rfl⟩:=hy.agg;simp only[go_sem,zE,zB,zA,f1,f5,hx2.len,lt_i hlt,fits,yQ1 ht2,iNn,hky];intros;refine hcall.mono ?_;rintro _ st ⟨t3,lr,rfl,ht3,hlr,rfl⟩;have b5:=hlr.len;simp only[go_sem];refine LoopC.ctr lr.length (λj fr st' ds=>(∃t0 r,fr 3=.iv (.sl t0 (strI r))/\okEs t0 1/\SortedOf (yQg us++G (frFs (sub.take k))++G (lr.take j)) r)/\fr 1=.box [.raw (.int .u8 op),.raw (.string n),.sl t1 x1,.sl t2 x2]/\fr 5=.iv (.raw (.int .i64 k))/\fr 6=.iv (.sl t3 (strI lr))/\fr 7=.iv (.raw (.int .i64 j))/\st'=st/\ds=[]) ?_ ?_ ?_
   ·simp only[go_sem,zE,f1,f3,f5];exact⟨⟨_,_,rfl,ht0,hr.congr λx=>by simp[hG]⟩,rfl⟩
   ·rintro j fr st _ hjt ⟨⟨t0,r,f3,ht0,hr⟩,f1,f5,f6,f7,rfl,rfl⟩;obtain⟨c,hc⟩:=yQ3 hjt;have bG:=hGl (frFs (sub.take k));have bG2:=hGl (lr.take j);have bG3:(lr.take j).length<=lr.length:=by rw[List.length_take];omega
    simp only[go_sem,zE,zA,zL,f1,f6,f7,yQs,lt_i hjt];intros;refine (xJm gl op n _ _ _ _ _).mono ?_;rintro _ st ⟨rfl,rfl⟩;have hins:=zXl gl _ r t0 ht0 hr (by simp only[lLa];omega) c;have hnext:∀r2,SortedOf (yQg us++G (frFs (sub.take k))++G (lr.take j)++[c]) r2->¬ (isQ op=true/\c=n)->SortedOf (yQg us++G (frFs (sub.take k))++G (lr.take (j+1))) r2:=λr2 h hc2=>h.congr λx=>by
     rw[yQ5 hc];simp only[List.mem_append,hG,List.mem_singleton];constructor
     ·rintro ((h|h)|rfl)
      ·exact .inl h
      ·exact .inr ⟨.inl h.1,h.2⟩
      ·exact .inr ⟨.inr rfl,hc2⟩
     ·rintro (h|⟨h|h,h2⟩)
      ·exact .inl (.inl h)
      ·exact .inl (.inr ⟨h,h2⟩)
      ·exact .inr h
    cases hq:isQ op
    ·simp only[go_sem,zE,zA,f3,f6,f7,fits,yQ1 ht3,iNn,yK1 hc];refine (hins _).mono ?_;rintro _ st ⟨t4,r2,rfl,ht4,hr2,rfl⟩;simp only[go_sem,zE,f1,f5,f6,f7,yQ9 hjt (show lr.length<=281474976710656 by omega)];exact⟨t4,r2,rfl,ht4,hnext r2 hr2 (by rw[hq];simp)⟩
    ·by_cases hcn:c=n
     ·simp only[go_sem,zE,zA,f1,f3,f5,f6,f7,fits,yQ1 ht3,iNn,yK1 hc,dEt hcn,yQ9 hjt (show lr.length<=281474976710656 by omega)];refine⟨t0,r,rfl,ht0,hr.congr λx=>?_⟩;rw[yQ5 hc];simp only[List.mem_append,hG,List.mem_singleton];constructor
      ·rintro (h|h)
       ·exact .inl h
       ·exact .inr ⟨.inl h.1,h.2⟩
      ·rintro (h|⟨h|h,h2⟩)
       ·exact .inl h
       ·exact .inr ⟨h,h2⟩
       ·exact absurd ⟨hq,h.trans hcn⟩ h2
     ·simp only[go_sem,zE,zA,f1,f3,f6,f7,fits,yQ1 ht3,iNn,yK1 hc,dEf hcn];refine (hins _).mono ?_;rintro _ st ⟨t4,r2,rfl,ht4,hr2,rfl⟩;simp only[go_sem,zE,f1,f5,f6,f7,yQ9 hjt (show lr.length<=281474976710656 by omega)];exact⟨t4,r2,rfl,ht4,hnext r2 hr2 (λh=>hcn h.2)⟩
   ·rintro fr st _ ⟨⟨t0,r,f3,ht0,hr⟩,f1,f5,f6,f7,rfl,rfl⟩;rw[lTl] at hr;simp only[go_sem,zE,f1,f3,f5,f6,f7,yQs,yQj (nLi _),yQ9 hlt (show sub.length<=281474976710656 by omega)];intros;refine⟨t0,r,rfl,ht0,hr.congr λx=>?_⟩;rw[yQ5 ha,zK9];simp only[List.mem_append,hG,hlr.2 x,frFs,List.append_nil];constructor
    ·rintro ((h|h)|h)
     ·exact .inl h
     ·exact .inr ⟨.inl h.1,h.2⟩
     ·exact .inr ⟨.inr h.1,h.2⟩
    ·rintro (h|⟨h|h,h2⟩)
     ·exact .inl (.inl h)
     ·exact .inl (.inr ⟨h,h2⟩)
     ·exact .inr ⟨h,h2⟩
  ·rintro fr st _ ⟨⟨t0,r,f3,ht0,hr⟩,f1,f5,rfl,rfl⟩;rw[lTl] at hr;simp only[go_sem,zE,f1,f3,f5,hx2.len,yQj (nLi _)];intros;exact yQ0 ⟨t0,r,rfl,ht0,hr.congr hfin,rfl⟩
theorem zUo:∀(k:Nat)(t:Fm),SizeOf.sizeOf t<k->RFr gl t
 | 0,f,h=>by omega
 | k+1,.mk o n us sub,h=>xYd gl o n us sub (λa ha=>zUo k a (by
   have:=lSm ha;simp at h;omega))
theorem wQ3 (t:Fm):RFr gl t:=zUo gl _ t (Nat.lt_succ_self _)
