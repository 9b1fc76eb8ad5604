/- Walks of the second program: insert, mer -/
import Derived.Test.YtabhgbojkjcfjaaGreatDoorLA
import Derived.Test.YtabhgbojkjcfjaaGreatDoorKB
import Derived.Test.YtabhgbojkjcfjaaGreatDoorKQ
set_option linter.all false
open Nat renaming reduceEqDiff → zE,reduceBEq → zB,reduceAdd → zA,reduceMul → zM,reduceLeDiff → zL
namespace Go.Proofs.Tryz
open Go Go.Iv
set_option maxRecDepth 4000
variable (gl:Nat->Option IV)
theorem SortedOf.congr {L M r:List ByteArray}(h:SortedOf L r)(e:∀x,x∈L↔x∈M):SortedOf M r:=⟨h.1,λx=>(h.2 x).trans (e x)⟩
theorem SortedOf.len {L r:List ByteArray}(h:SortedOf L r):r.length<=L.length:=zX9 h.1 λx A=>(h.2 x).1 A
theorem wUj {L l:List ByteArray}{s:ByteArray}{k:Nat}(W:SortedOf L l)(hs:s ∉ l)(G:∀x∈l.take k,ltN x s)(O:∀y,l[k]?=some y->¬ ltN y s):SortedOf (L++[s]) (l.take k++[s]++l.drop k):=by
 have hp:(l.take k++l.drop k).Pairwise ltN:=by rw[List.take_append_drop];exact W.1
 obtain⟨p1,F,p3⟩:=List.pairwise_append.1 hp;have J:∀y∈l.drop k,ltN s y:=by
  cases hd:l.drop k with
  | nil=>intro y A;cases A
  | cons a m =>
   have E:l[k]?=some a:=by
    have:=congrArg (·[0]?) hd;simpa[List.getElem?_drop] using this
   have D:ltN s a:=xXx (O a E) (λe=>hs (e▸lMg E));rw[hd] at F;obtain⟨q1,_⟩:=List.pairwise_cons.1 F;intro y A;rcases List.mem_cons.1 A with rfl|A
   ·exact D
   ·exact xXw D (q1 y A)
 refine⟨?_,λx=>?_⟩
 ·rw[List.append_assoc];refine List.pairwise_append.2 ⟨p1,List.pairwise_cons.2 ⟨λy A=>J y A,F⟩,λa E b U=>?_⟩;rcases List.mem_cons.1 U with rfl|U
  ·exact G a E
  ·exact p3 a E b U
 ·have hm:x∈l↔x∈l.take k\/x∈l.drop k:=by
   conv=>lhs;rw[<- List.take_append_drop k l]
   exact List.mem_append
  simp only[List.mem_append,List.mem_singleton,<- W.2 x,hm];constructor
  ·rintro ((h|h)|h)
   ·exact .inl (.inl h)
   ·exact .inr h
   ·exact .inl (.inr h)
  ·rintro ((h|h)|h)
   ·exact .inl (.inl h)
   ·exact .inr h
   ·exact .inl (.inr h)
def zWp (L:List ByteArray)(st:ISt)(r:IV)(st':ISt):Prop:=∃A l,r=.sl A (strI l)/\okEs A 1/\SortedOf L l/\st'=st
theorem xZm (l:List ByteArray)(k:Nat):(strI l).drop k=strI (l.drop k):=by simp[strI]
theorem xZl (l:List ByteArray)(k:Nat):(strI l).take k=strI (l.take k):=by simp[strI]
theorem zKu {k n:Nat}(h:k<=n):yXm (some (k:Int)) none n=some (k,n):=by
 unfold yXm;rw[if_pos]
 ·simp
 ·simp;omega
theorem xJl (l:List ByteArray):(strI l).all (fits false 1)=true:=by simp[fits,IV.one,strI]
theorem zK5 (L l:List ByteArray)(tg:Tag)(W:okEs tg 1)(hl:SortedOf L l)(av:L.length<=1099511627776)(s:ByteArray)(st:ISt) :
  ICall prog gl 218 [.sl tg (strI l),.raw (.string s)] st (zWp (L++[s]) st):=by
 have hll:=hl.len;refine ICall.intro (c:=cf prog gl [] [(8,[0,1,2,4,5,6,7,3,8,9])]) func218 rfl (by show _<=41;simp) (by kernel_rfl) ?_;simp only[go_sem,zE,zA,reduceCtorEq];refine (wZ3 gl tg l s W (by omega) _).mono ?_;rintro _ st ⟨rfl,rfl⟩;cases hs:hasB l s
 case true =>
  simp only[go_sem,reduceCtorEq];exact yQ0 ⟨tg,l,rfl,W,hl.congr (λx=>by
   simp only[List.mem_append,List.mem_singleton];exact⟨.inl,λh=>h.elim id λe=>e▸(hl.2 s).1 (zVr.1 hs)⟩),rfl⟩
 have aj:=zGo.1 hs;simp only[go_sem];refine LoopC.ctr l.length (λk fr st' ds=>(∃t5,fr 5=.iv (.sl t5 (strI (l.take k)))/\own st' t5 k 1 st/\subSt st st')/\(∀x∈l.take k,ltN x s)/\fr 0=.iv (.sl tg (strI l))/\fr 1=.iv (.raw (.string s))/\fr 6=.iv (.raw (.int .i64 k))/\ds=[]) ?_ ?_ ?_
 ·simp only[go_sem,zE,reduceCtorEq];exact⟨⟨_,rfl,own.nil _ _ _ _ _,subSt.refl _⟩,(by intro x hx;cases hx),rfl⟩
 ·rintro k fr aq _ aa ⟨⟨t5,f5,O,J⟩,U,f0,f1,f6,rfl⟩;obtain⟨a,ha⟩:=yQ3 aa;cases hb:Op.bytesLess a.data.toList s.data.toList
  ·simp only[go_sem,zE,zA,zM,zL,reduceCtorEq,f0,f1,f5,f6,yQn,lt_i aa,yQ2 W,iNn,yK0 ha,hb];intros;have ae:∀y,l[k]?=some y->¬ ltN y s:=λy hy=>by
    rw[ha] at hy;cases hy;intro h;rw[zK4.2 h] at hb;cases hb
   have G:(l.take (k)).length=k:=by rw[List.length_take];omega
   have af:(l.drop (k)).take (l.length-k)=l.drop (k):=List.take_of_length_le (by rw[List.length_drop];omega);simp only[go_sem,yQ1,G,zKu (show k<=l.length by omega)];refine yZ1 O (by rw[yQn];exact G) J rfl (by simp[fits,IV.one]) (by simp only;omega) (by omega) λac ai D A _=>?_;simp only[go_sem,zE,zA,xZm,xZl,af];refine yJ5 D (by rw[lLa,yQn,G];rfl) (yQn _) A rfl (xJl _) (by simp only[List.length_drop];omega) (by simp only[List.length_drop];omega) λab ao F E _=>?_;simp only[go_sem];exact yQc E ⟨ab,l.take (k)++[s]++l.drop (k),by simp only[yJo];rfl,F.es,wUj hl aj U ae,rfl⟩
  ·simp only[go_sem,zE,zA,zM,zL,reduceCtorEq,f0,f1,f5,f6,yQn,lt_i aa,yQ2 W,iNn,yK0 ha,hb,yQ1];intros;refine yZ1 O (by simp[yQn];omega) J rfl (by simp[fits,IV.one]) (by simp only;omega) (by omega) λac ai D A _=>?_;simp only[go_sem,zE,reduceCtorEq,f0,f1,f6,yQb aa (show l.length<=281474976710656 by omega)];refine⟨⟨ac,by rw[yQ4 ha,yJo];rfl,D,A⟩,λx hx=>?_⟩;rw[yQ4 ha,List.mem_append,List.mem_singleton] at hx;rcases hx with hx|rfl
   ·exact U x hx
   ·exact zK4.1 hb
 ·rintro fr aq _ ⟨⟨t5,f5,O,J⟩,U,f0,f1,f6,rfl⟩;simp only[go_sem,zE,zA,zM,zL,reduceCtorEq,f0,f1,f5,f6,yQn,yQj (nLi _)];intros;have ae:∀y,l[l.length]?=some y->¬ ltN y s:=λy hy=>by simp at hy
  have G:(l.take (l.length)).length=l.length:=by rw[List.length_take];omega
  have af:(l.drop (l.length)).take (l.length-l.length)=l.drop (l.length):=List.take_of_length_le (by rw[List.length_drop];omega);simp only[go_sem,yQ1,G,zKu (show l.length<=l.length by omega),yQ2 W];refine yZ1 O (by rw[yQn];exact G) J rfl (by simp[fits,IV.one]) (by simp only;omega) (by omega) λac ai D A _=>?_;simp only[go_sem,zE,zA,xZm,xZl,af];refine yJ5 D (by rw[lLa,yQn,G];rfl) (yQn _) A rfl (xJl _) (by simp only[List.length_drop];omega) (by simp only[List.length_drop];omega) λab ao F E _=>?_;simp only[go_sem];exact yQc E ⟨ab,l.take (l.length)++[s]++l.drop (l.length),by simp only[yJo];rfl,F.es,wUj hl aj U ae,rfl⟩
theorem xQa (L a:List ByteArray)(G:Tag)(O:okEs G 1)(ha:SortedOf L a)(b:List ByteArray)(F:Tag)(J:okEs F 1)(ab:L.length+b.length<=1099511627776)(st:ISt) :
  ICall prog gl 220 [.sl G (strI a),.sl F (strI b)] st (zWp (L++b) st):=by
 refine iI func220 ?_;simp only[go_sem];refine LoopC.ctr b.length (λk fr st' ds=>(∃t0 r,fr 0=.iv (.sl t0 (strI r))/\okEs t0 1/\SortedOf (L++b.take k) r)/\fr 1=.iv (.sl F (strI b))/\fr 5=.iv (.raw (.int .i64 k))/\st'=st/\ds=[]) ?_ ?_ ?_
 ·simp only[go_sem,zE,reduceCtorEq];exact⟨⟨G,a,rfl,O,by simpa using ha⟩,rfl⟩
 ·rintro k fr st _ D ⟨⟨t0,r,f0,A,E⟩,f1,f5,rfl,rfl⟩;obtain⟨x,hx⟩:=yQ3 D;simp only[go_sem,zE,zA,reduceCtorEq,f0,f1,f5,yQn,lt_i D,yQ2 J,iNn,yK0 hx,fits];intros;refine (zK5 gl _ r t0 A E (by simp only[lLa,List.length_take];omega) x _).mono ?_;rintro _ st ⟨t1,r1,rfl,U,W,rfl⟩;simp only[go_sem,zE,reduceCtorEq,f1,f5,yQb D (show b.length<=281474976710656 by omega)];exact⟨t1,r1,rfl,U,by rw[yQ4 hx,<- List.append_assoc];exact W⟩
 ·rintro fr st _ ⟨⟨t0,r,f0,A,E⟩,f1,f5,rfl,rfl⟩;rw[lTl] at E;simp only[go_sem,zE,reduceCtorEq,f0,f1,f5,yQn,yQj (nLi _)];intros;exact yQ0 ⟨t0,r,rfl,A,E,rfl⟩
def RTq (t:Tm):Prop:=∀(x:IV) (_:IsTm t x) (_:t.size<=1000000000) (st:ISt),ICall prog gl 219 [x] st (zWp (yQo t) st)
theorem zY7 (v:Bool)(n:ByteArray)(us:List Tm)(IH:∀a∈us,RTq gl a):RTq gl (.mk v n us):=by
 intro x hx ai st;obtain⟨tg,xs,rfl,ae,F⟩:=hx.mk;simp only[Tm.size] at ai;have au:=yX0 us;refine iI func219 ?_;cases v
 ·simp only[go_sem,zE];refine LoopC.ctr us.length (λk fr st' ds=>(∃t0 r,fr 3=.iv (.sl t0 (strI r))/\okEs t0 1/\SortedOf (([]:List ByteArray)++yQk (us.take k)) r)/\fr 1=.box [.raw (.bool false),.raw (.string n),.sl tg xs]/\fr 4=.iv (.raw (.int .i64 k))/\st'=st/\ds=[]) ?_ ?_ ?_
  ·simp only[go_sem,zE];exact⟨⟨_,_,rfl,.inl rfl,List.Pairwise.nil,λx=>by simp[yQk]⟩,rfl⟩
  ·rintro k fr st _ D ⟨⟨t0,r,f3,A,J⟩,f1,f4,rfl,rfl⟩;obtain⟨a,O⟩:=yQ3 D;obtain⟨y,ab,hy⟩:=F.get O;obtain⟨h1,h2⟩:=yZg O;have b2:=yJu (us.take k);have b4:=yV5 a;have E:=IH a (lMg O) y hy (by omega) st;obtain⟨v5,n5,t5,x5,rfl⟩:=hy.agg;simp only[go_sem,zE,zB,zA,f1,f3,f4,F.len,lt_i D,fits,yQ2 ae,iNn,ab];intros;refine E.mono ?_;rintro _ st ⟨t1,r1,rfl,W,G,rfl⟩;have b5:=G.len;simp only[go_sem,zE,zA];refine (xQa gl _ r t0 A J r1 t1 W (by simp only[lLa,List.length_nil];omega) _).mono ?_;rintro _ st ⟨t2,r2,rfl,U,aa,rfl⟩;simp only[go_sem,zE,f1,f4,yQb D (show us.length<=281474976710656 by omega)];refine⟨t2,r2,rfl,U,aa.congr λx=>?_⟩;rw[yQ4 O,yX5];simp[List.mem_append,yQk,G.2 x]
  ·rintro fr st _ ⟨⟨t0,r,f3,A,J⟩,f1,f4,rfl,rfl⟩;rw[lTl] at J;simp only[go_sem,zE,f1,f3,f4,F.len,yQj (nLi _)];intros;exact yQ0 ⟨t0,r,rfl,A,J,rfl⟩
 ·simp only[go_sem,zE,zA];refine (zK5 gl [] [] ⟨true,.nil,0⟩ (.inl rfl) ⟨List.Pairwise.nil,λx=>Iff.rfl⟩ (by simp) n _).mono ?_;rintro _ st ⟨t3,r3,rfl,ah,aj,rfl⟩;simp only[go_sem];refine LoopC.ctr us.length (λk fr st' ds=>(∃t0 r,fr 3=.iv (.sl t0 (strI r))/\okEs t0 1/\SortedOf ([n]++yQk (us.take k)) r)/\fr 1=.box [.raw (.bool true),.raw (.string n),.sl tg xs]/\fr 4=.iv (.raw (.int .i64 k))/\st'=st/\ds=[]) ?_ ?_ ?_
  ·simp only[go_sem,zE];exact⟨⟨_,_,rfl,ah,by simpa[yQk] using aj⟩,rfl⟩
  ·rintro k fr st _ D ⟨⟨t0,r,f3,A,J⟩,f1,f4,rfl,rfl⟩;obtain⟨a,O⟩:=yQ3 D;obtain⟨y,ab,hy⟩:=F.get O;obtain⟨h1,h2⟩:=yZg O;have b2:=yJu (us.take k);have b4:=yV5 a;have E:=IH a (lMg O) y hy (by omega) st;obtain⟨v5,n5,t5,x5,rfl⟩:=hy.agg;simp only[go_sem,zE,zB,zA,f1,f3,f4,F.len,lt_i D,fits,yQ2 ae,iNn,ab];intros;refine E.mono ?_;rintro _ st ⟨t1,r1,rfl,W,G,rfl⟩;have b5:=G.len;simp only[go_sem,zE,zA];refine (xQa gl _ r t0 A J r1 t1 W (by simp only[lLa,List.length_cons,List.length_nil];omega) _).mono ?_;rintro _ st ⟨t2,r2,rfl,U,aa,rfl⟩;simp only[go_sem,zE,f1,f4,yQb D (show us.length<=281474976710656 by omega)];refine⟨t2,r2,rfl,U,aa.congr λx=>?_⟩;rw[yQ4 O,yX5];simp[List.mem_append,yQk,G.2 x]
  ·rintro fr st _ ⟨⟨t0,r,f3,A,J⟩,f1,f4,rfl,rfl⟩;rw[lTl] at J;simp only[go_sem,zE,f1,f3,f4,F.len,yQj (nLi _)];intros;exact yQ0 ⟨t0,r,rfl,A,J,rfl⟩
theorem zZ7:∀(k:Nat)(t:Tm),SizeOf.sizeOf t<k->RTq gl t
 | 0,f,h=>by omega
 | k+1,.mk v n us,h=>zY7 gl v n us (λa A=>zZ7 k a (by
   have:=lSm A;simp at h;omega))
theorem zV4 (t:Tm):RTq gl t:=zZ7 gl _ t (Nat.lt_succ_self _)
theorem xZ3 (op:Nat)(n:ByteArray)(t F:Tag)(E ys:List IV)(st:ISt) :
  ICall prog gl 195 [.agg [.raw (.int .u8 op),.raw (.string n),.sl t E,.sl F ys]] st (λx st'=>x=.raw (.bool (isQ op))/\st'=st):=by
 refine iI func195 ?_;by_cases D:op=8
 ·simp only[go_sem,zE,zA,show decide ((op:Int)=8)=true from dEt (by omega)];exact yQ0 ⟨by simp[isQ,D],rfl⟩
 ·have d8:decide ((op:Int)=8)=false:=dEf (by omega);by_cases A:op=9
  ·simp only[go_sem,zE,zA,d8,show decide ((op:Int)=9)=true from dEt (by omega)];exact yQ0 ⟨by simp[isQ,A],rfl⟩
  ·simp only[go_sem,zE,zA,d8,show decide ((op:Int)=9)=false from dEf (by omega)];exact yQ0 ⟨by simp[isQ,D,A],rfl⟩
def RFr (f:Fm):Prop:=∀(x:IV) (_:IsFm f x) (_:f.size<=1000000000) (st:ISt),ICall prog gl 189 [x] st (zWp (frF f) st)
theorem xUv (op:Nat)(n:ByteArray)(us:List Tm)(sub:List Fm)(IH:∀a∈sub,RFr gl a):RFr gl (.mk op n us sub):=by
 intro x hx az st;obtain⟨t1,x1,t2,x2,rfl,ho,ay,ai,ax,ah⟩:=hx.mk;simp only[Fm.size] at az;have aH:=yQs sub;have aG:=yX0 us;obtain⟨G,au⟩:∃G:List ByteArray->List ByteArray,G=λL=>if isQ op then L.filter (λx=>!decide (x=n)) else L:=⟨_,rfl⟩
 have hG:∀L x,x∈G L↔x∈L/\¬ (isQ op=true/\x=n):=λL x=>by
  rw[au];cases isQ op<;>simp
 have aq:∀L,(G L).length<=L.length:=λL=>by
  rw[au];cases isQ op
  ·simp
  ·simp only[if_true];exact List.length_filter_le _ _
 have ao:∀x,x∈yQk us++G (frFs sub)↔x∈frF (.mk op n us sub):=λx=>by
  simp only[frF,List.mem_append,hG];cases isQ op<;>simp
 have bu:=yJu us;refine iI func189 ?_;simp only[go_sem];refine LoopC.ctr us.length (λk fr st' ds=>(∃t0 r,fr 3=.iv (.sl t0 (strI r))/\okEs t0 1/\SortedOf (yQk (us.take k)) r)/\fr 1=.box [.raw (.int .u8 op),.raw (.string n),.sl t1 x1,.sl t2 x2]/\fr 4=.iv (.raw (.int .i64 k))/\st'=st/\ds=[]) ?_ ?_ ?_
 ·simp only[go_sem,zE];exact⟨⟨_,[],rfl,.inl rfl,List.Pairwise.nil,λx=>by simp[yQk]⟩,rfl⟩
 ·rintro k fr st _ E ⟨⟨t0,r,f3,A,D⟩,f1,f4,rfl,rfl⟩;obtain⟨a,ha⟩:=yQ3 E;obtain⟨y,aj,hy⟩:=ai.get ha;obtain⟨h1,h2⟩:=yZg ha;have b2:=yJu (us.take k);have b4:=yV5 a;have F:=zV4 gl a y hy (by omega) st;obtain⟨v5,n5,t5,x5,rfl⟩:=hy.agg;simp only[go_sem,zE,zB,zA,f1,f3,f4,ai.len,lt_i E,fits,yQ2 ay,iNn,aj];intros;refine F.mono ?_;rintro _ st ⟨t3,r1,rfl,W,am,rfl⟩;have b5:=am.len;simp only[go_sem,zE,zA];refine (xQa gl _ r t0 A D r1 t3 W (by omega) _).mono ?_;rintro _ st ⟨t4,J,rfl,U,aa,rfl⟩;simp only[go_sem,zE,f1,f4,yQb E (show us.length<=281474976710656 by omega)];refine⟨t4,J,rfl,U,aa.congr λx=>?_⟩;rw[yQ4 ha,yX5];simp[List.mem_append,yQk,am.2 x]
 ·rintro fr st _ ⟨⟨t0,r,f3,A,D⟩,f1,f4,rfl,rfl⟩;rw[lTl] at D;simp only[go_sem,zE,f1,f4,ai.len,yQj (nLi _)];intros;refine LoopC.ctr sub.length (λk fr st' ds=>(∃t0 r,fr 3=.iv (.sl t0 (strI r))/\okEs t0 1/\SortedOf (yQk us++G (frFs (sub.take k))) r)/\fr 1=.box [.raw (.int .u8 op),.raw (.string n),.sl t1 x1,.sl t2 x2]/\fr 5=.iv (.raw (.int .i64 k))/\st'=st/\ds=[]) ?_ ?_ ?_
  ·simp only[go_sem,zE,f1,f3];exact⟨⟨t0,r,rfl,A,D.congr λx=>by simp[hG,frFs]⟩,rfl⟩
  ·rintro k fr st _ E ⟨⟨t0,r,f3,A,D⟩,f1,f5,rfl,rfl⟩;obtain⟨a,ha⟩:=yQ3 E;obtain⟨y,aj,hy⟩:=ah.get ha;obtain⟨h1,h2⟩:=yQq ha;have b2:=xQm (sub.take k);have b4:=zJk a;have F:=IH a (lMg ha) y hy (by omega) st;obtain⟨o5,n5,t5,x5,t6,x6,rfl⟩:=hy.agg;simp only[go_sem,zE,zB,zA,f1,f5,ah.len,lt_i E,fits,yQ2 ax,iNn,aj];intros;refine F.mono ?_;rintro _ st ⟨t3,O,rfl,W,an,rfl⟩;have b5:=an.len;simp only[go_sem];refine LoopC.ctr O.length (λj fr st' ds=>(∃t0 r,fr 3=.iv (.sl t0 (strI r))/\okEs t0 1/\SortedOf (yQk us++G (frFs (sub.take k))++G (O.take j)) r)/\fr 1=.box [.raw (.int .u8 op),.raw (.string n),.sl t1 x1,.sl t2 x2]/\fr 5=.iv (.raw (.int .i64 k))/\fr 6=.iv (.sl t3 (strI O))/\fr 7=.iv (.raw (.int .i64 j))/\st'=st/\ds=[]) ?_ ?_ ?_
   ·simp only[go_sem,zE,f1,f3,f5];exact⟨⟨_,_,rfl,A,D.congr λx=>by simp[hG]⟩,rfl⟩
   ·rintro j fr st _ ac ⟨⟨t0,r,f3,A,D⟩,f1,f5,f6,f7,rfl,rfl⟩;obtain⟨c,hc⟩:=yQ3 ac;have bG:=aq (frFs (sub.take k));have aJ:=aq (O.take j);have aI:(O.take j).length<=O.length:=by rw[List.length_take];omega
    simp only[go_sem,zE,zA,zL,f1,f6,f7,yQn,lt_i ac];intros;refine (xZ3 gl op n _ _ _ _ _).mono ?_;rintro _ st ⟨rfl,rfl⟩;have af:=zK5 gl _ r t0 A D (by simp only[lLa];omega) c;have ab:∀J,SortedOf (yQk us++G (frFs (sub.take k))++G (O.take j)++[c]) J->¬ (isQ op=true/\c=n)->SortedOf (yQk us++G (frFs (sub.take k))++G (O.take (j+1))) J:=λJ h aA=>h.congr λx=>by
     rw[yQ4 hc];simp only[List.mem_append,hG,List.mem_singleton];constructor
     ·rintro ((h|h)|rfl)
      ·exact .inl h
      ·exact .inr ⟨.inl h.1,h.2⟩
      ·exact .inr ⟨.inr rfl,aA⟩
     ·rintro (h|⟨h|h,h2⟩)
      ·exact .inl (.inl h)
      ·exact .inl (.inr ⟨h,h2⟩)
      ·exact .inr h
    cases hq:isQ op
    ·simp only[go_sem,zE,zA,f3,f6,f7,fits,yQ2 W,iNn,yK0 hc];refine (af _).mono ?_;rintro _ st ⟨t4,J,rfl,U,aa,rfl⟩;simp only[go_sem,zE,f1,f5,f6,f7,yQb ac (show O.length<=281474976710656 by omega)];exact⟨t4,J,rfl,U,ab J aa (by rw[hq];simp)⟩
    ·by_cases ae:c=n
     ·simp only[go_sem,zE,zA,f1,f3,f5,f6,f7,fits,yQ2 W,iNn,yK0 hc,dEt ae,yQb ac (show O.length<=281474976710656 by omega)];refine⟨t0,r,rfl,A,D.congr λx=>?_⟩;rw[yQ4 hc];simp only[List.mem_append,hG,List.mem_singleton];constructor
      ·rintro (h|h)
       ·exact .inl h
       ·exact .inr ⟨.inl h.1,h.2⟩
      ·rintro (h|⟨h|h,h2⟩)
       ·exact .inl h
       ·exact .inr ⟨h,h2⟩
       ·exact absurd ⟨hq,h.trans ae⟩ h2
     ·simp only[go_sem,zE,zA,f1,f3,f6,f7,fits,yQ2 W,iNn,yK0 hc,dEf ae];refine (af _).mono ?_;rintro _ st ⟨t4,J,rfl,U,aa,rfl⟩;simp only[go_sem,zE,f1,f5,f6,f7,yQb ac (show O.length<=281474976710656 by omega)];exact⟨t4,J,rfl,U,ab J aa (λh=>ae h.2)⟩
   ·rintro fr st _ ⟨⟨t0,r,f3,A,D⟩,f1,f5,f6,f7,rfl,rfl⟩;rw[lTl] at D;simp only[go_sem,zE,f1,f3,f5,f6,f7,yQn,yQj (nLi _),yQb E (show sub.length<=281474976710656 by omega)];intros;refine⟨t0,r,rfl,A,D.congr λx=>?_⟩;rw[yQ4 ha,zVx];simp only[List.mem_append,hG,an.2 x,frFs,List.append_nil];constructor
    ·rintro ((h|h)|h)
     ·exact .inl h
     ·exact .inr ⟨.inl h.1,h.2⟩
     ·exact .inr ⟨.inr h.1,h.2⟩
    ·rintro (h|⟨h|h,h2⟩)
     ·exact .inl (.inl h)
     ·exact .inl (.inr ⟨h,h2⟩)
     ·exact .inr ⟨h,h2⟩
  ·rintro fr st _ ⟨⟨t0,r,f3,A,D⟩,f1,f5,rfl,rfl⟩;rw[lTl] at D;simp only[go_sem,zE,f1,f3,f5,ah.len,yQj (nLi _)];intros;exact yQ0 ⟨t0,r,rfl,A,D.congr ao,rfl⟩
theorem xXd:∀(k:Nat)(t:Fm),SizeOf.sizeOf t<k->RFr gl t
 | 0,f,h=>by omega
 | k+1,.mk o n us sub,h=>xUv gl o n us sub (λa A=>xXd k a (by
   have:=lSm A;simp at h;omega))
theorem xV4 (t:Fm):RFr gl t:=xXd gl _ t (Nat.lt_succ_self _)
