/- Walks: settle. -/
import Derived.Test.YtofmbookakncjaaGreatDoorQE
import Derived.Test.YtofmbookakncjaaGreatDoorKG
set_option linter.all false
open Nat renaming reduceEqDiff → zE,reduceBEq → zB,reduceAdd → zA,reduceMul → zM,reduceLeDiff → zL
namespace Go.Proofs.Tryz
open Go Go.Iv
set_option maxRecDepth 4000
variable (gl:Nat->Option IV)
theorem xG3 {ws:List (List Nat)}{u:Us}{w:List Nat}{x:Nat}(E:ws[u.1]?=some w)(D:w[u.2]?=some x):decW ws u=ws.set u.1 (w.set u.2 ((x+255)%256)):=by
 unfold decW;have A:∀ {α:Type} (l:List α) (i:Nat) (f:α->α) (a:α),l[i]?=some a->l.modify i f=l.set i (f a):=λl i f a h=>by
  refine List.ext_getElem? λk=>?_;rw[List.getElem?_modify,List.getElem?_set];by_cases e:i=k
  ·subst e;simp only[if_true,if_pos (lGs h).1,h];rfl
  ·simp[e]
 rw[A _ _ _ _ E,A _ _ _ _ D]
theorem vKw {x:Nat}(h:x<256):IntKind.u8.wrap ((x:Int)-1)=(((x+255)%256:Nat):Int):=by
 have:∀y:Fin 256,IntKind.u8.wrap ((y.val:Int)-1)=(((y.val+255)%256:Nat):Int):=by decide
 exact this ⟨x,h⟩
theorem wG2 (gU gW gH rb n:Nat)(p1 p2 p3 p4:IV)(S0:ISt)(gs hs:List Nat)(ws:List (List Nat))(us:List (List Us))(u:Us)(st:ISt)(hP:PS gU gW gH rb n [p1,p2,p3,p4] S0 gs st hs ws us)(w:List Nat)(U:ws[u.1]?=some w)(x:Nat)(hx:w[u.2]?=some x)(h:Nat)(hh:hs[u.1]?=some h) :
  ICall prog gl 82 [.agg [.raw (.int .i32 (u.1:Int)),.raw (.int .i32 (u.2:Int))],.cptr (slG gW n),.cptr (ptr rb)] st
   (λr st'=>r=.raw (.bool (decide ((x+255)%256=0/\h=0)))/\PS gU gW gH rb n [p1,p2,p3,p4] S0 gs st' hs (decW ws u) us/\∀g k s,st g=some (.front k s)->st' g=some (.front k s)):=by
 have hM:=hP.mem;obtain⟨g,hg⟩:=yQ1 (l:=gs) (k:=u.1) (by rw[hM.gll];exact (lGs U).1);have aa:=hM.row _ _ _ hg U;have ac:=(lGs hx).1;have al:x<256:=hM.small w (lMg U) x (lMg hx);have hn:u.1<n:=by rw[<- hM.hl];exact (lGs hh).1
 have af:g∈gs:=lMg hg;obtain⟨d1,d2,d3,d4,d5,d6,d7⟩:=hM.ne;have eW:gW≠g:=λe=>d3 (e▸af);have eH:gH≠g:=λe=>d5 (e▸af);have eR:rb≠g:=λe=>d6 (e▸af);have am:(rwsI gs ws++List.replicate (n-gs.length) (IV.sl ⟨true,.nil,0⟩ []))[u.1]?=some (slG g w.length):=by
  have:=zGb hg U;rw[List.getElem?_append_left (lGs this).1];exact this
 refine ICall.intro (c:=cf prog gl [9,13,20,24,30,34] []) func82 rfl (by show _<=37;simp) (by kernel_rfl) ?_;simp only[go_sem,zE,fits,yUu,IV.one,Nat.mul_one,Nat.zero_add,iNn,hn,hM.wts,am,aa,ac,xXn hx,vKw al];have aj:List.take u.2 (u8J w)++[.raw (.int .u8 (((x+255)%256:Nat):Int))]++List.drop (u.2+1) (u8J w)=u8J (w.set u.2 ((x+255)%256)):=by
  rw[<- wZ4,<- yKr (by rw[zYx];exact ac)];rfl
 rw[if_pos (by rw[zYx];omega),aj];have E:=hP.setW hg U u.2 (v:=(x+255)%256) (Nat.mod_lt _ (by decide));rw[<- xG3 U hx] at E;have ae:(decW ws u)[u.1]?=some (w.set u.2 ((x+255)%256)):=by rw[xG3 U hx,List.getElem?_set,if_pos rfl,if_pos (lGs U).1]
 have A:(w.set u.2 ((x+255)%256))[u.2]?=some ((x+255)%256):=by rw[List.getElem?_set,if_pos rfl,if_pos ac]
 have ag:∀g' k s,st g'=some (.front k s)->(st.put g (some (.box (u8J (w.set u.2 ((x+255)%256)))))) g'=some (.front k s):=λg' k s ak=>(yW4 aa ak).trans ak;generalize st.put g (some (.box (u8J (w.set u.2 ((x+255)%256)))))=ax at E ag ⊢;generalize w.set u.2 ((x+255)%256)=w2 at ae A;generalize (x+255)%256=v at A ⊢;have G:=E.mem;have D:=G.row _ _ _ hg ae;have J:=(lGs A).1;have O:(rwsI gs (decW ws u)++List.replicate (n-gs.length) (IV.sl ⟨true,.nil,0⟩ []))[u.1]?=some (slG g w2.length):=by
  have:=zGb hg ae;rw[List.getElem?_append_left (lGs this).1];exact this
 have ab:=G.rbx;simp only[List.cons_append,List.nil_append] at ab;by_cases hv:v=0
 ·subst hv;simp only[go_sem,zE,zA,fits,yUu,IV.one,Nat.mul_one,Nat.zero_add,iNn,hn,G.wts,O,D,J,xXn A,ab,G.hts,yXx hh,show decide (((0:Nat):Int)=0)=true from rfl];exact yQ0 ⟨by rw[show decide ((h:Int)=0)=decide (h=0) by rw[decide_eq_decide];omega],E,ag⟩
 ·have an:decide ((v:Int)=0)=false:=dEf (by omega);simp only[go_sem,zE,Nat.zero_add,G.wts,O,D,J,xXn A,an];exact yQ0 ⟨by rw[show decide (v=0/\h=0)=false from dEf λe=>hv e.1],E,ag⟩
theorem yK0 {S:ISt}{b:Nat}{x y:Option IObj}(h:S b=none):((S.put b x).put b y).put b none=S:=by
 funext c;simp only[ISt.put_apply];split
 ·rename_i e;rw[e,h]
 ·rfl
theorem PS.start {gU gW gH rb n:Nat}{p1 p2 p3 p4:IV}{S0 st:ISt}(ai:st gH=none)(ae:rb≠gH)(D:S0 rb=none)(ab:rb≠gU)(ac:gU≠gH)(ah:st gU=none)(O:gW≠gU)(U:rb≠gW)(aa:gW≠gH)(ag:st gW=none)(A:subSt S0 st) :
  PS gU gW gH rb n [p1,p2,p3,p4] S0 [] ((((st.put gH (some (.box (List.replicate n (.raw (.int .i64 0)))))).put rb (some (.box [p1,p2,p3,p4,slG gH n]))).put gU (some (.box (List.replicate n (.sl ⟨true,.nil,0⟩ []))))).put gW (some (.box (List.replicate n (.sl ⟨true,.nil,0⟩ [])))))
   (List.replicate n 0) [] (List.replicate n []):=by
 have J:=yXo A ai;have G:=yXo A ah;have E:=yXo A ag;refine⟨⟨by rw[yQ7 U,yQ7 ab,ISt.put_same];rfl,by rw[yQ7 aa.symm,yQ7 ac.symm,yQ7 ae.symm,ISt.put_same];simp[yQj],List.length_replicate,by rw[ISt.put_same];simp[rwsI],rfl,λk g w h=>by simp at h,?_,λw h=>by cases h⟩,
  ⟨_,by rw[yQ7 O.symm,ISt.put_same],by simp,λp l hp=>?_,λp q t t' ys aj g h1 _ h3=>?_⟩,yQa (yQa (yQa (yQa A J) D) G) E,⟨G,E,J,D,λg h=>by cases h⟩,?_,List.length_replicate⟩
 ·simp only[List.nodup_cons,List.mem_cons,List.not_mem_nil,or_false,not_or,nFt,List.nodup_nil,and_true];exact⟨⟨aa,U.symm⟩,ae.symm⟩
 ·rw[List.getElem?_replicate] at hp ⊢;split at hp
  ·rename_i af;cases hp;rw[if_pos af];exact⟨_,_,rfl,AllR.nil,own.nil ..⟩
  ·cases hp
 ·rw[List.getElem?_replicate] at h1;split at h1
  ·cases h1;cases h3
  ·cases h1
 ·simp only[List.mem_cons,List.not_mem_nil,or_false,not_or];exact⟨O.symm,ac,ab.symm⟩
def HtOk (cl:Nat->Prop)(i:Nat)(hs:List Nat):Prop:=∀(k x:Nat),hs[k]?=some x->(k<i->(x=1/\cl k)\/(x=0/\¬ cl k))/\(i<=k->x=0)
theorem xUw (cl:Nat->Prop)(n:Nat):HtOk cl 0 (List.replicate n 0):=λk x A=>by
 rw[List.getElem?_replicate] at A;split at A
 ·cases A;exact⟨λh=>absurd h (Nat.not_lt_zero _),λ_=>rfl⟩
 ·cases A
def NwOk (hs A:List Nat):Prop:=(∀k,k∈A↔hs[k]?=some 1)/\A.Nodup
theorem HtOk.one {cl:Nat->Prop}{i:Nat}{hs:List Nat}(h:HtOk cl i hs)(hc:cl i):HtOk cl (i+1) (hs.set i 1):=λk x A=>by
 rw[List.getElem?_set] at A;split at A
 ·rename_i e;subst e;split at A
  ·cases A;exact⟨λ_=>.inl ⟨rfl,hc⟩,λh=>by omega⟩
  ·cases A
 ·rename_i e;obtain⟨h1,h2⟩:=h k x A;exact⟨λD=>h1 (by omega),λE=>h2 (by omega)⟩
theorem HtOk.zero {cl:Nat->Prop}{i:Nat}{hs:List Nat}(h:HtOk cl i hs)(hc:¬ cl i):HtOk cl (i+1) hs:=λk x D=>by
 obtain⟨h1,h2⟩:=h k x D;refine⟨λA=>?_,λE=>h2 (by omega)⟩;by_cases e:k=i
 ·subst e;exact .inr ⟨h2 (Nat.le_refl _),hc⟩
 ·exact h1 (by omega)
theorem NwOk.add {hs A:List Nat}{i:Nat}(h:NwOk hs A)(E:hs[i]?=some 0):NwOk (hs.set i 1) (A++[i]):=by
 have D:i ∉ A:=λG=>by have:=(h.1 i).1 G;rw[E] at this;cases this
 refine⟨λk=>?_,List.nodup_append.2 ⟨h.2,by simp,λa O b J=>by rw[List.mem_singleton.1 J];rintro rfl;exact D O⟩⟩;rw[List.mem_append,List.mem_singleton,List.getElem?_set];by_cases e:i=k
 ·subst e;rw[if_pos rfl,if_pos (lGs E).1];simp
 ·rw[if_neg e,h.1 k];exact⟨λh=>h.resolve_right λh=>e h.symm,.inl⟩
theorem NwOk.len {hs A:List Nat}(h:NwOk hs A):A.length<=hs.length:=by
 have:=zKd (b:=List.range hs.length) h.2 λx D=>List.mem_range.2 (lGs ((h.1 x).1 D)).1
 rwa [List.length_range] at this
theorem wKx {p:Nat}:∀(l:List Us) (E:List (Nat×Us)),(∀u,l.count u<=E.count (p,u))->l.length<=E.length
 | [],_,_=>Nat.zero_le _
 | a::l,E,h=>by
  have G:=h a;rw[List.count_cons_self] at G;have D:(p,a)∈E:=List.count_pos_iff.1 (by omega);have:=wKx (p:=p) l (E.erase (p,a)) λu=>by
   have A:=h u;rw[List.count_erase];by_cases e:a=u
   ·subst e;rw[List.count_cons_self] at A;rw[if_pos (by simp)];omega
   ·rw[List.count_cons_of_ne e] at A;rw[if_neg (by simp[e])];omega
  rw[List.length_erase_of_mem D] at this;have:=List.length_pos_of_mem D;rw[List.length_cons];omega
theorem UsOk.len {us:List (List Us)}{E:List (Nat×Us)}(h:UsOk us E){p:Nat}{l:List Us}(hp:us[p]?=some l):l.length<=E.length :=
 wKx (p:=p) l E λu=>by rw[<- h p u];unfold usAt;rw[hp];exact Nat.le_refl _
theorem zUd {α β:Type}{F:α->List β}{c:Nat}:∀ {l:List α},(∀x∈l,(F x).length<=c)->(l.flatMap F).length<=c*l.length
 | [],_=>by simp
 | a::l,h=>by
  have h1:=h a (.head _);have h2:=zUd (l:=l) λx A=>h x (.tail _ A);rw[List.flatMap_cons,lLa,List.length_cons,Nat.mul_add,Nat.mul_one];omega
theorem wKi {i:Nat}{l:List Lk}(h:∀k∈l,k.2.2.length<=2):(evL i l).length<=2*l.length:=by
 have:=zUd (F:=λA:Lk×Nat=>evK (i,A.2) A.1.2.2) (c:=2) (l:=l.zipIdx) λx D=>by
  unfold evK;rw[List.length_map];exact h _ (List.fst_mem_of_mem_zipIdx D)
 rwa [List.length_zipIdx] at this
theorem wKj {links:List (List Lk)}(h:∀l∈links,l.length<=16000000/\∀k∈l,k.2.2.length<=2):(evA links).length<=32000000*links.length:=by
 have:=zUd (F:=λA:List Lk×Nat=>evL A.2 A.1) (c:=32000000) (l:=links.zipIdx) λx D=>by
  obtain⟨h1,h2⟩:=h _ (List.fst_mem_of_mem_zipIdx D);have:=wKi (i:=x.2) h2;omega
 rwa [List.length_zipIdx] at this
def RdS (links:List (List Lk))(hs:List Nat)(S:Ss):Prop:=S.1.count 0+S.2.2.length=hs.count 0/\∀u,lkAt links u≠[]->∃x,atW S.2.1 u=some x
theorem RdS.step {links:List (List Lk)}{hs:List Nat}{S:Ss}(h:RdS links hs S){H:Nat}(E:0<H)(u:Us):RdS links hs (yJc H S u):=by
 have D:(yJc H S u).2.1=decW S.2.1 u:=by unfold yJc;split<;>rfl
 refine⟨?_,λv hv=>?_⟩
 ·unfold yJc;split
  ·rename_i hc;obtain⟨h1,h2⟩:=lGs hc.2;have:=List.count_set (a:=H) (b:=0) h1;have hp:0<S.1.count 0:=List.count_pos_iff.2 (by rw[<- h2];exact List.getElem_mem h1);have G:=h.1;simp only[lLa,List.length_singleton];rw[this,h2,if_pos (by simp),if_neg (by simp;omega)];omega
  ·exact h.1
 ·obtain⟨x,A⟩:=h.2 v hv;rw[D,zZt];split
  ·exact⟨_,by rw[A];rfl⟩
  ·exact⟨x,A⟩
def rowJ (l:List Lk)(j:Nat):List Nat:=(l.take j).map (λk=>k.2.2.length)++List.replicate (l.length-j) 0
theorem wX3 (l:List Lk):rowJ l 0=List.replicate l.length 0:=by simp[rowJ]
theorem wWq (l:List Lk){j:Nat}(h:j<=l.length):(rowJ l j).length=l.length:=by
 unfold rowJ;rw[lLa,List.length_map,List.length_take,List.length_replicate];omega
theorem wWr (l:List Lk):rowJ l l.length=l.map λk=>k.2.2.length:=by simp[rowJ]
theorem xW0 {l:List Lk}{j:Nat}{k:Lk}(h:l[j]?=some k):(rowJ l j).set j k.2.2.length=rowJ l (j+1):=by
 have D:=(lGs h).1;unfold rowJ;rw[yQ6 h,List.map_append];have h1:((l.take j).map λk:Lk=>k.2.2.length).length=j:=by rw[List.length_map,List.length_take];omega
 rw[List.set_append_right _ _ (by omega),h1,Nat.sub_self];obtain⟨m,A⟩:∃m,l.length-j=m+1:=⟨l.length-j-1,by omega⟩
 rw[A,show l.length-(j+1)=m by omega,List.replicate_succ,List.set_cons_zero,List.append_assoc];rfl
theorem wWh (ca m:Nat)(W:List Fm)(hS:SpOk ca W)(tw:Tag)(xw:List IV)(cF:okEs tw 4)(cv:IsFms W xw)(cT:W.length<=200000)(lines:List Ln)(links:List (List Lk))(hA:LksAll ca W lines links)(c0:lines.length<=20000)
  (tl tk:Tag) (xl xk:List IV) (mN rb:Nat) (bB:AllR IsLn lines xl) (bD:AllR wGn links xk) (htl:okEs tl 2) (cI:okEs tk 1) (S0 st:ISt)
  (aS:st rb=some (.box [spI ca tw xw m,.sl tl xl,.raw (.map (some mN)),.sl tk xk,.sl ⟨true,.nil,0⟩ []])) (h0:S0 rb=none) (bJ:subSt S0 st) :
  ICall prog gl 38 [ptr rb] st (λr st'=>r=.tup []/\∃gH hs,st' rb=some (.box [spI ca tw xw m,.sl tl xl,.raw (.map (some mN)),.sl tk xk,slG gH lines.length])/\st' gH=some (.box (yQj hs)) /\
   hs.length=lines.length/\(∀i x,hs[i]?=some x->LstG (clL W lines) links i x)/\subSt S0 st'):=by
 have bA:=bB.1;have aU:=bD.1;have hll:=hA.len;refine ICall.introF (t:=3) (n:=4) (c:=cf prog gl [25,3,56,60,96,152,3000027,3000035,3000041,3000084] [(8,[0,1,2,4,5,6,8,16,3,7,9,10,11,12,13,14,15,17,18,19])] [1]) func38 rfl (by show _<=165;simp) (by show _<165;simp) (by kernel_rfl) ?_;simp only[go_sem,zE,zA,zL,fits,aS];refine yQp ⟨by omega,by omega,by omega⟩ λgH=>yQ8 λbX=>yQp rfl ?_;have cb:rb≠gH:=λe=>by rw[e,bX] at aS;cases aS
 rw[yQ7 cb,aS];simp only[go_sem,zA,zL];intro _;refine yQp ⟨by omega,by omega,by omega⟩ λgU=>yQ8 λan=>?_;have bp:rb≠gU:=λe=>by rw[<- e,ISt.put_same] at an;cases an
 rw[yQ7 bp.symm] at an;have b9:gU≠gH:=λe=>by rw[e,ISt.put_same] at an;cases an
 rw[yQ7 b9] at an;rw[yQ7 bp];simp only[go_sem,ISt.put_same];intro _;refine yQp ⟨by omega,by omega,by omega⟩ λgW=>yQ8 λaa=>?_;have b6:gW≠gU:=λe=>by rw[e,ISt.put_same] at aa;cases aa
 rw[yQ7 b6] at aa;have b7:rb≠gW:=λe=>by rw[<- e,ISt.put_same] at aa;cases aa
 rw[yQ7 b7.symm] at aa;have b8:gW≠gH:=λe=>by rw[e,ISt.put_same] at aa;cases aa
 rw[yQ7 b8] at aa;refine λb3=>yQ8 λcR=>yQp rfl ?_;refine⟨b3,slG gW xl.length,by simp only[go_sem],ISt.put_same ..,?_⟩;rw[yK0 cR,show age (slG gW xl.length)=slG gW xl.length by simp only[age]];rw[bA];have bo:=PS.start (n:=lines.length) (p1:=spI ca tw xw m) (p2:=.sl tl xl) (p3:=.raw (.map (some mN))) (p4:=.sl tk xk) bX cb h0 bp b9 an b6 b7 b8 aa bJ;generalize ((((st.put gH (some (.box (List.replicate lines.length (.raw (.int .i64 0)))))).put rb (some (.box [spI ca tw xw m,.sl tl xl,.raw (.map (some mN)),.sl tk xk,slG gH lines.length]))).put gU (some (.box (List.replicate lines.length (.sl ⟨true,.nil,0⟩ []))))).put gW (some (.box (List.replicate lines.length (.sl ⟨true,.nil,0⟩ [])))))=c8 at bo ⊢;have aY:=bo.mem.rbx;simp only[List.cons_append,List.nil_append] at aY;have aq:∀l∈links,l.length<=16000000:=λl cK=>by
  obtain⟨i,hi,rfl⟩:=List.mem_iff_getElem.1 cK;obtain⟨ln,ax,hs⟩:=hA.done i _ (List.getElem?_eq_getElem hi);rcases hs with⟨_,h0⟩|⟨_,vs,cC,bh⟩
  ·rw[h0];exact Nat.zero_le _
  ·have:=zGr hS cT (hA.ok ln (lMg ax));rw[cC,List.length_map] at this;rw[bh.1];exact this
 simp only[go_sem,zE,fits,aY];intro _;refine LoopC.ctr xk.length (λi fr st' ds=>(∃gs hs us O A,PS gU gW gH rb lines.length [spI ca tw xw m,.sl tl xl,.raw (.map (some mN)),.sl tk xk] S0 gs st' hs (wsOf (links.take i)) us/\UsOk us (evA (links.take i))/\own st' O A.length 1 S0/\fr 4=.iv (.sl O (i32I A))/\HtOk (clL W lines) i hs/\NwOk hs A) /\
  fr 1=.iv (.cptr (ptr rb))/\fr 2=.iv (slG gU lines.length)/\fr 3=.iv (.cptr (slG gW lines.length))/\fr 45=.iv (.sl tk xk)/\fr 46=.iv (.raw (.int .i64 xk.length))/\fr 47=.iv (.raw (.int .i64 (i:Int)))/\ds=[]) ?_ ?_ ?_
 ·simp only[go_sem,zE];exact⟨⟨[],_,_,⟨true,.nil,0⟩,[],bo,UsOk.nil _,own.nil ..,rfl,xUw _ _,⟨λk=>by rw[List.getElem?_replicate];split<;>simp,List.nodup_nil⟩⟩,rfl⟩
 ·rintro i fr aO _ bP ⟨⟨gs,hs,us,O,A,E,hU,D,f4,hH,hN⟩,f1,f2,f3,f45,f46,f47,rfl⟩;have cN:i<links.length:=by omega
  obtain⟨l,hl⟩:=yQ1 cN;obtain⟨ln,ax⟩:=yQ1 (show i<lines.length by omega);have aZ:=hA.ok ln (lMg ax);obtain⟨_,cw,tL,yL,rfl,cJ,bx⟩:=bD.2 i l hl;obtain⟨z,cr,hz⟩:=bB.2 i ln ax;have cS:=λst=>xKx gl ca m W hS tw xw cF cv ln aZ z hz st;obtain⟨ta,tb,rfl,ea,eb⟩:=hz;have aE:=E.mem.rbx;simp only[List.cons_append,List.nil_append] at aE;simp only[go_sem,zE,zB,zA,f1,f45,f46,f47,lt_i bP,yQ3 cI,yQ3 htl,iNn,cw,cr,aE,fits,IV.one];refine (cS _).mono ?_;rintro _ aO ⟨⟨zf,rfl,ct⟩,rfl⟩;obtain⟨y1,y2,y3,y4,y5,y6,rfl⟩:=ct.agg;have cP:=wV3 (W:=W) aZ.1;have a1:clL W lines i↔(axW W ln).isSome=true:=by
   rw[cP];exact⟨λ⟨a,ha,hc⟩=>by rw[ax] at ha;cases ha;exact hc,λhc=>⟨ln,ax,hc⟩⟩
  simp only[go_sem,zE,zA,zL];refine zUl (λfr st' ds=>(∃hs us O A,PS gU gW gH rb lines.length [spI ca tw xw m,.sl tl xl,.raw (.map (some mN)),.sl tk xk] S0 gs st' hs (wsOf (links.take i)) us/\UsOk us (evA (links.take i))/\own st' O A.length 1 S0/\fr 4=.iv (.sl O (i32I A))/\HtOk (clL W lines) (i+1) hs/\NwOk hs A) /\
   fr 1=.iv (.cptr (ptr rb))/\fr 2=.iv (slG gU lines.length)/\fr 3=.iv (.cptr (slG gW lines.length))/\fr 5=.iv (.raw (.int .i64 (i:Int)))/\fr 6=.iv (.sl tL yL)/\fr 45=.iv (.sl tk xk)/\fr 46=.iv (.raw (.int .i64 xk.length))/\fr 47=.iv (.raw (.int .i64 (i:Int)))/\ds=[]) ?_ (λaQ=>?_) (λaQ=>?_)
  ·rintro fr bb _ ⟨⟨hs,us,O,A,E,hU,D,f4,hH,hN⟩,f1,f2,f3,f5,f6,f45,f46,f47,rfl⟩;have aB:=bx.1;have dl:=aq l (lMg hl);have U:i<lines.length:=by omega
   have bV:gs.length=i:=by rw[E.mem.gll];unfold wsOf;rw[List.length_map,List.length_take];omega
   simp only[go_sem,zE,zA,f3,f5,f6,fits,IV.one,Nat.mul_one,iNn,U];refine yQp (by omega) λg=>yQ8 λhg=>?_;have bW:gW≠g:=λe=>by rw[<- e,E.mem.wts] at hg;cases hg
   have aj:=E.row hg (w:=List.replicate l.length 0) (λx hx=>by rw[List.eq_of_mem_replicate hx];decide) (by omega);have aC:=E.mem.wts;rw[bV] at aj aC;rw[yQ7 bW,aC];have bL:(rwsI gs (wsOf (links.take i))++List.replicate (lines.length-i) (IV.sl ⟨true,.nil,0⟩ [])).length=lines.length:=by
    unfold rwsI;rw[lLa,List.length_zipWith,List.length_replicate,<- E.mem.gll,Nat.min_self];omega
   have ai:∀y:IV,List.take i (rwsI gs (wsOf (links.take i))++List.replicate (lines.length-i) (IV.sl ⟨true,.nil,0⟩ []))++[y]++List.drop (i+1) (rwsI gs (wsOf (links.take i))++List.replicate (lines.length-i) (IV.sl ⟨true,.nil,0⟩ [])) =
     (rwsI gs (wsOf (links.take i))++List.replicate (lines.length-i) (IV.sl ⟨true,.nil,0⟩ [])).set i y:=λy=>by
    rw[<- yKr (by rw[bL];exact U)];rfl
   have b2:=aj;rw[List.length_replicate,<- aB] at aj;simp only[u8J,List.map_replicate] at aj;simp only[go_sem,bL,ai];rw[if_pos (show i+1<=lines.length from U)];intro _;rw[show List.replicate yL.length 0=rowJ l 0 by rw[wX3,aB]] at aj;have am:own ((bb.put g (some (.box (List.replicate yL.length (.raw (.int .u8 ((0:Nat):Int))))))).put gW (some (.box ((rwsI gs (wsOf (links.take i))++List.replicate (lines.length-i) (IV.sl ⟨true,.nil,0⟩ [])).set i (slG g yL.length))))) O A.length 1 S0:=D.mono λg' G _=>by
    rw[yQ7 (λe=>by rw[e,E.mem.wts] at G;cases G),yQ7 (λe=>by rw[e,hg] at G;cases G)];exact G
   refine (?_:∀st4,PS gU gW gH rb lines.length _ S0 (gs++[g]) st4 hs (wsOf (links.take i)++[rowJ l 0]) us->own st4 O A.length 1 S0->LoopC _ _ _ _ st4 _) _ aj am;intro st4 aj am;clear D E b2;refine LoopC.ctr yL.length (λj fr st' ds=>(∃us,PS gU gW gH rb lines.length [spI ca tw xw m,.sl tl xl,.raw (.map (some mN)),.sl tk xk] S0 (gs++[g]) st' hs (wsOf (links.take i)++[rowJ l j]) us/\UsOk us (evA (links.take i)++evL i (l.take j))/\own st' O A.length 1 S0) /\
    fr 1=.iv (.cptr (ptr rb))/\fr 2=.iv (slG gU lines.length)/\fr 3=.iv (.cptr (slG gW lines.length))/\fr 4=.iv (.sl O (i32I A))/\fr 5=.iv (.raw (.int .i64 (i:Int)))/\fr 45=.iv (.sl tk xk)/\fr 46=.iv (.raw (.int .i64 xk.length))/\fr 47=.iv (.raw (.int .i64 (i:Int))) /\
    fr 86=.iv (.sl tL yL)/\fr 87=.iv (.raw (.int .i64 yL.length))/\fr 88=.iv (.raw (.int .i64 (j:Int)))/\ds=[]) ?_ ?_ ?_
   ·simp only[go_sem,zE];exact⟨⟨us,aj,by simpa[evL] using hU,am⟩,f1,f2,f3,f4,f5,f45,f46,f47,rfl⟩
   ·rintro j fr aw _ bi ⟨⟨us,E,hU,D⟩,f1,f2,f3,f4,f5,f45,f46,f47,f86,f87,f88,rfl⟩;have bR:j<l.length:=by rw[<- aB];exact bi
    obtain⟨k,hk⟩:=yQ1 bR;obtain⟨ch,bC,aV⟩:=bx.2 j k hk;obtain⟨_,cM,dh,df,cL⟩:=hA.lk hS (lMg hl) (lMg hk);have cG:=λst=>to_c gl k ch aV cM st;obtain⟨kp,kq,rfl,de⟩:=id aV;have aC:=E.mem.wts;have bk:(gs++[g])[i]?=some g:=by rw[<- bV,List.getElem?_append_right (Nat.le_refl _),Nat.sub_self];rfl
    have bF:(wsOf (links.take i)).length=i:=by unfold wsOf;rw[List.length_map,List.length_take];omega
    have bc:(wsOf (links.take i)++[rowJ l j])[i]?=some (rowJ l j):=by rw[List.getElem?_append_right (by omega),bF,Nat.sub_self];rfl
    have bf:=E.mem.row i g _ bk bc;have bK:=wWq l (j:=j) (by omega);have bG:(rwsI (gs++[g]) (wsOf (links.take i)++[rowJ l j])++List.replicate (lines.length-(gs++[g]).length) (IV.sl ⟨true,.nil,0⟩ []))[i]?=some (slG g (rowJ l j).length):=by
     have:=zGb bk bc;rw[List.getElem?_append_left (lGs this).1];exact this
    have bQ:j<(rowJ l j).length:=by rw[bK];exact bR
    simp only[go_sem,zE,zB,zA,zL,f3,f5,f86,f87,f88,lt_i bi,yQ3 cJ,iNn,bC,aC,bG,bf,bQ,U,fits,IV.one,Nat.mul_one,Nat.zero_add];have aD:List.take j (u8J (rowJ l j))++[.raw (.int .u8 (k.2.2.length:Int))]++List.drop (j+1) (u8J (rowJ l j))=u8J (rowJ l (j+1)):=by
     rw[<- xW0 hk,<- wZ4,<- yKr (by rw[zYx];exact bQ)];rfl
    rw[if_pos (by rw[zYx];omega),aD];have ao:=E.setW bk bc j (v:=k.2.2.length) (by omega);rw[xW0 hk,show (wsOf (links.take i)++[rowJ l j]).set i (rowJ l (j+1))=wsOf (links.take i)++[rowJ l (j+1)] by rw[List.set_append_right _ _ (by omega),bF,Nat.sub_self];rfl] at ao;have J:own (aw.put g (some (.box (u8J (rowJ l (j+1)))))) O A.length 1 S0:=D.mono λg' G _=>(yW4 bf G).trans G;generalize aw.put g (some (.box (u8J (rowJ l (j+1)))))=az at ao J ⊢;clear E D aC bf aD;refine (cG _).mono ?_;rintro _ az ⟨⟨tp,rfl,htp⟩,rfl⟩;simp only[go_sem,zQi];intro _;refine LoopC.ctr k.2.2.length (λq fr st' ds=>(∃us,PS gU gW gH rb lines.length [spI ca tw xw m,.sl tl xl,.raw (.map (some mN)),.sl tk xk] S0 (gs++[g]) st' hs (wsOf (links.take i)++[rowJ l (j+1)]) us/\UsOk us (evA (links.take i)++evL i (l.take j)++evK (i,j) (k.2.2.take q))/\own st' O A.length 1 S0) /\
     fr 1=.iv (.cptr (ptr rb))/\fr 2=.iv (slG gU lines.length)/\fr 3=.iv (.cptr (slG gW lines.length))/\fr 4=.iv (.sl O (i32I A))/\fr 5=.iv (.raw (.int .i64 (i:Int)))/\fr 45=.iv (.sl tk xk)/\fr 46=.iv (.raw (.int .i64 xk.length))/\fr 47=.iv (.raw (.int .i64 (i:Int))) /\
     fr 86=.iv (.sl tL yL)/\fr 87=.iv (.raw (.int .i64 yL.length))/\fr 88=.iv (.raw (.int .i64 (j:Int)))/\fr 10=.iv (.raw (.int .i64 (j:Int)))/\fr 102=.iv (.sl tp (i32I k.2.2))/\fr 103=.iv (.raw (.int .i64 k.2.2.length))/\fr 104=.iv (.raw (.int .i64 (q:Int)))/\ds=[]) ?_ ?_ ?_
    ·simp only[go_sem,zE];exact⟨⟨us,ao,by simpa[evK] using hU,J⟩,f1,f2,f3,f4,f5,f45,f46,f47,f86,f87,f88,rfl⟩
    ·rintro q fr bu _ hq ⟨⟨us,E,hU,D⟩,f1,f2,f3,f4,f5,f45,f46,f47,f86,f87,f88,f10,f102,f103,f104,rfl⟩;obtain⟨p,hp⟩:=yQ1 hq;have bN:=cL p (lMg hp);obtain⟨cells,c1,c2,c3,c4⟩:=E.usr.ex;obtain⟨lu,ae⟩:=yQ1 (l:=us) (k:=p) (by rw[E.ul,<- hll];exact bN);obtain⟨tu,yu,d1,d2,d3⟩:=c3 p lu ae;have bm:=λn:Int=>yJ5 prog 3 21 zW3 zJ0 .i64 n;have cB:IntKind.i32.wrap (i:Int)=(i:Int):=IntWalk.i32_in _ (by omega);have cA:IntKind.i32.wrap (j:Int)=(j:Int):=IntWalk.i32_in _ (by omega);have hpL:p<lines.length:=by rw[<- hll];exact bN
     simp only[go_sem,zE,zA,zM,zL,f2,f5,f10,f102,f103,f104,lt_i hq,yQ3 htp,iNn,xYf hp,yUu,c1,d1,hpL,bm,cB,cA,yQ4,fits,IV.one,Nat.mul_one,Nat.zero_add];have cD:=hU.len ae;have dp:(evA (links.take i)).length<=32000000*20000:=by
      have h1:=wKj (links:=links.take i) λl' aH=>⟨aq l' (List.mem_of_mem_take aH),λk' aI=>(hA.lk hS (List.mem_of_mem_take aH) aI).2.1⟩
      have h2:(links.take i).length<=20000:=by rw[List.length_take];omega
      exact Nat.le_trans h1 (Nat.mul_le_mul_left _ h2)
     have dn:(evL i (l.take j)).length<=2*16000000:=by
      have h1:=wKi (i:=i) (l:=l.take j) λk' aI=>(hA.lk hS (lMg hl) (List.mem_of_mem_take aI)).2.1;have h2:(l.take j).length<=16000000:=by rw[List.length_take];omega
      exact Nat.le_trans h1 (Nat.mul_le_mul_left _ h2)
     have dm:(evK (i,j) (k.2.2.take q)).length<=2:=by unfold evK;rw[List.length_map,List.length_take];omega
     rw[lLa,lLa] at cD;refine zUn d3 d2.1 E.base rfl (by simp[fits,IV.one]) (by simp only;omega) (by omega) λcn ba w1 w2 w3 w4=>?_;have b4:=E.addU (u:=(i,j)) rfl ae c1 d1 w1 w2 w3 w4;have cQ:ba gU=some (.box cells):=w3 _ _ c1 λe=>by rw[zZ8 d3 e] at c1;cases c1
     have aF:own (ba.put gU (some (.box (cells.set p (.sl cn (yu++[.agg [.raw (.int .i32 (i:Int)),.raw (.int .i32 (j:Int))]])))))) O A.length 1 S0:=D.mono λg' G _=>by
      rw[yQ7 λe=>by rw[e,c1] at G;cases G];exact w3 _ _ G λe=>by rw[zZ8 d3 e] at G;simp at G
     simp only[go_sem,zE,f1,f2,f3,f4,f5,f10,f45,f46,f47,f86,f87,f88,f102,f103,f104,cQ,hpL,yQc hq (show k.2.2.length<=281474976710656 by omega),IV.one,Nat.mul_one];have aK:p<cells.length:=(lGs d1).1;rw[if_pos (iNn _),if_pos (show p+1<=cells.length from aK)];have b1:=hU.add (p:=p) (u:=(i,j)) (lGs ae).1;rw[show usAt us p=lu by unfold usAt;rw[ae];rfl,List.append_assoc,<- wYx hp] at b1;exact⟨_,by rw[<- yKr aK] at b4;exact b4,b1,by rw[<- yKr aK] at aF;exact aF⟩
    ·rintro fr bu _ ⟨⟨us,E,hU,D⟩,f1,f2,f3,f4,f5,f45,f46,f47,f86,f87,f88,f10,f102,f103,f104,rfl⟩;simp only[go_sem,zE,f1,f2,f3,f4,f5,f45,f46,f47,f86,f87,f88,f103,f104,yQl (nLi _)];rw[lTl,List.append_assoc,<- wYw hk] at hU;exact⟨⟨us,E,hU,D⟩,by rw[yQc bi (by omega)]⟩
   ·rintro fr aw _ ⟨⟨us,E,hU,D⟩,f1,f2,f3,f4,f5,f45,f46,f47,f86,f87,f88,rfl⟩;rw[aB,lTl,<- wYy hl] at hU;rw[aB,show wsOf (links.take i)++[rowJ l l.length]=wsOf (links.take (i+1)) by rw[yQ6 hl,wWr];unfold wsOf;rw[List.map_append];rfl] at E;simp only[go_sem,zE,f1,f2,f3,f4,f45,f46,f47,f87,f88,yQl (nLi _),yQc bP (show xk.length<=281474976710656 by omega)];exact⟨_,hs,us,O,A,E,hU,D,rfl,hH,hN⟩
  ·have aJ:=E.mem.hts;have bj:=E.mem.hl;have U:i<lines.length:=by omega
   have bm:=λn:Int=>yJ5 prog 3 21 zW3 zJ0 .i64 n;have hw:IntKind.i32.wrap (i:Int)=(i:Int):=IntWalk.i32_in _ (by omega);simp only[go_sem,zE,zA,zL,f1,f4,aE,aJ,fits,IV.one,Nat.mul_one,Nat.zero_add,iNn,U,yQ4,bm,hw];have ai:List.take i (yQj hs)++[.raw (.int .i64 1)]++List.drop (i+1) (yQj hs)=yQj (hs.set i 1):=by
    rw[<- xY5,<- yKr (by rw[yQu,bj];exact U)];rfl
   rw[if_pos (by rw[yQu,bj];omega),ai];have ao:=E.setH i 1;have J:own (aO.put gH (some (.box (yQj (hs.set i 1))))) O A.length 1 S0:=D.mono λg hg _=>(yW4 aJ hg).trans hg;have cy:hs[i]?=some 0:=by
    obtain⟨x,hx⟩:=yQ1 (l:=hs) (k:=i) (by rw[bj];exact U);rw[hx,(hH i x hx).2 (Nat.le_refl _)]
   have dc:=hN.len;generalize aO.put gH (some (.box (yQj (hs.set i 1))))=bb at ao J ⊢;refine zUn J (zQi A) ao.base rfl (by simp[fits,IV.one]) (by simp only;omega) (by omega) λcm st4 w1 w2 w3 w4=>?_;simp only[go_sem,zE,f1,f2,f3,f45,f46,f47];exact⟨_,us,cm,A++[i],ao.far J w2 w3,hU,by rw[lLa];exact w1,by simp[i32I],hH.one (a1.2 aQ),hN.add cy⟩
  ·simp only[go_sem,zE,f1,f2,f3,f4,f45,f46,f47];exact⟨hs,us,O,A,E,hU,D,rfl,hH.zero (λh=>(by rw[a1.1 h] at aQ;cases aQ)),hN⟩
 ·rintro fr aO _ ⟨⟨gs,hs,us,O,A,E,hU,D,f4,hH,hN⟩,f1,f2,f3,f45,f46,f47,rfl⟩;rw[aU,lTl] at E hU;rw[aU] at hH;have be:∀p u,(usAt us p).count u=(lkAt links u).count p:=λp u=>(hU p u).trans (vXc links p u);have cU:Rnd (clL W lines) links 2 hs (wsOf links) A:=Rnd.start (λl hl k hk=>(hA.lk hS hl hk).1) (by rw[E.mem.hl,hll]) (λi x hx=>(hH i x hx).1 (by rw[hll,<- E.mem.hl];exact (lGs hx).1)) hN.1 hN.2;have bU:gs.length=lines.length:=by rw[E.mem.gll];unfold wsOf;rw[List.length_map,hll]
  have h2:∀u,(lkAt links u).length<=2:=λu=>by
   unfold lkAt;cases hk:((links[u.1]?).getD [])[u.2]? with
   | none=>simp
   | some k =>
    cases hl:links[u.1]? with
    | none=>rw[hl] at hk;simp at hk
    | some l =>
     rw[hl] at hk;exact (hA.lk hS (lMg hl) (lMg hk)).2.1
  have bS:∀u,∀p∈lkAt links u,p<links.length:=λu p hp=>by
   unfold lkAt at hp;cases hk:((links[u.1]?).getD [])[u.2]? with
   | none=>rw[hk] at hp;cases hp
   | some k =>
    rw[hk] at hp;cases hl:links[u.1]? with
    | none=>rw[hl] at hk;simp at hk
    | some l =>
     rw[hl] at hk;exact (hA.lk hS (lMg hl) (lMg hk)).2.2.2.2 p hp
  have dj:hs.count 0<=20000:=by
   have:=List.count_le_length (a:=0) (l:=hs);have:=E.mem.hl;omega
  simp only[go_sem,zE,f1,f3,f46,f47,yQl (nLi _)];refine LoopC.dec (2*hs.count 0+if A=[] then 0 else 1) (λq fr st' ds=>(∃H hs ws O A,q=2*hs.count 0+(if A=[] then 0 else 1)/\2<=H/\H+hs.count 0<=20002+(if A=[] then 1 else 0)/\PS gU gW gH rb lines.length [spI ca tw xw m,.sl tl xl,.raw (.map (some mN)),.sl tk xk] S0 gs st' hs ws us /\
   Rnd (clL W lines) links H hs ws A/\okEs O 1/\fr 4=.iv (.sl O (i32I A))/\fr 15=.iv (.raw (.int .i64 (H:Int)))) /\
   fr 1=.iv (.cptr (ptr rb))/\fr 2=.iv (slG gU lines.length)/\fr 3=.iv (.cptr (slG gW lines.length))/\fr 14=.iv (.fn (.func 82) [] [.cptr (slG gW lines.length),.cptr (ptr rb)])/\ds=[]) ?_ ?_
  ·simp only[go_sem,zE,f1,f2,f3,f4];exact⟨2,hs,_,O,A,rfl,Nat.le_refl _,by omega,E,cU,D.es,rfl,rfl⟩
  ·rintro q fr bb _ ⟨⟨H,hs,ws,O,A,hq,b5,cV,E,hR,cH,f4,f15⟩,f1,f2,f3,f14,rfl⟩;by_cases bg:A=[]
   ·subst bg;simp only[go_sem,zL,f4,zQi,List.length_nil,show decide (((0:Nat):Int) > 0)=false from rfl];have aX:=E.mem.rbx;simp only[List.cons_append,List.nil_append] at aX;exact yQ0 ⟨rfl,gH,hs,aX,E.mem.hts,E.mem.hl,(Sett.right (us:=us) (.done H hs ws) hR b5 be h2 bS).2,E.base⟩
   ·have cZ:0<A.length:=List.length_pos_iff.2 bg;rw[if_neg bg] at hq cV;simp only[go_sem,zE,f4,zQi,show decide (((A.length:Nat):Int) > 0)=true from dEt (by omega)];intro _ _;refine LoopC.ctr A.length (λa fr st' ds=>(∃tq S,S=((A.take a).flatMap (usAt us)).foldl (yJc H) (hs,ws,[])/\PS gU gW gH rb lines.length [spI ca tw xw m,.sl tl xl,.raw (.map (some mN)),.sl tk xk] S0 gs st' S.1 S.2.1 us/\RdS links hs S/\own st' tq S.2.2.length 1 S0/\fr 16=.iv (.sl tq (i32I S.2.2))) /\
     fr 1=.iv (.cptr (ptr rb))/\fr 2=.iv (slG gU lines.length)/\fr 3=.iv (.cptr (slG gW lines.length))/\fr 14=.iv (.fn (.func 82) [] [.cptr (slG gW lines.length),.cptr (ptr rb)])/\fr 15=.iv (.raw (.int .i64 (H:Int))) /\
     fr 131=.iv (.sl O (i32I A))/\fr 132=.iv (.raw (.int .i64 A.length))/\fr 133=.iv (.raw (.int .i64 (a:Int)))/\ds=[]) ?_ ?_ ?_
    ·simp only[go_sem,zE];exact⟨⟨⟨true,.nil,0⟩,_,rfl,E,⟨Nat.add_zero _,hR.wd⟩,own.nil ..,rfl⟩,f1,f2,f3,f14,f15,rfl⟩
    ·rintro a fr st4 _ ha ⟨⟨tq,S,ab,E,ah,D,f16⟩,f1,f2,f3,f14,f15,f131,f132,f133,rfl⟩;obtain⟨i,hi⟩:=yQ1 ha;have U:i<lines.length:=by
      have:=(lGs ((hR.nw i).1 (lMg hi))).1;rw[hR.len,hll] at this;exact this
     obtain⟨cells,c1,c2,c3,c4⟩:=E.usr.ex;obtain⟨lu,ae⟩:=yQ1 (l:=us) (k:=i) (by rw[E.ul];exact U);obtain⟨tu,yu,d1,d2,d3⟩:=c3 i lu ae;have bH:usAt us i=lu:=by unfold usAt;rw[ae];rfl
     have aA:=d2.1;have c9:yu.length<=32000000*20000:=by
      have h1:=hU.len ae;have h2:=wKj (links:=links) λl' aH=>⟨aq l' aH,λk' aI=>(hA.lk hS aH aI).2.1⟩
      have h3:links.length<=20000:=by omega
      rw[aA];exact Nat.le_trans h1 (Nat.le_trans h2 (Nat.mul_le_mul_left _ h3))
     simp only[go_sem,zE,f2,f131,f132,f133,lt_i ha,yQ3 cH,iNn,xYf hi,yUu,c1,d1,U,fits,IV.one,Nat.mul_one,Nat.zero_add];intro _;refine LoopC.ctr yu.length (λb fr st' ds=>(∃tq S,S=((A.take a).flatMap (usAt us)++lu.take b).foldl (yJc H) (hs,ws,[])/\PS gU gW gH rb lines.length [spI ca tw xw m,.sl tl xl,.raw (.map (some mN)),.sl tk xk] S0 gs st' S.1 S.2.1 us/\RdS links hs S/\own st' tq S.2.2.length 1 S0/\fr 16=.iv (.sl tq (i32I S.2.2))) /\
      fr 1=.iv (.cptr (ptr rb))/\fr 2=.iv (slG gU lines.length)/\fr 3=.iv (.cptr (slG gW lines.length))/\fr 14=.iv (.fn (.func 82) [] [.cptr (slG gW lines.length),.cptr (ptr rb)])/\fr 15=.iv (.raw (.int .i64 (H:Int))) /\
      fr 131=.iv (.sl O (i32I A))/\fr 132=.iv (.raw (.int .i64 A.length))/\fr 133=.iv (.raw (.int .i64 (a:Int)))/\fr 140=.iv (.sl tu yu)/\fr 141=.iv (.raw (.int .i64 yu.length))/\fr 142=.iv (.raw (.int .i64 (b:Int)))/\ds=[]) ?_ ?_ ?_
     ·simp only[go_sem,zE];exact⟨⟨tq,S,ab,E,ah,D,f16⟩,f1,f2,f3,f14,f15,f131,f132,f133,rfl⟩
     ·rintro b fr aw _ hb ⟨⟨tq,S,ab,E,ah,D,f16⟩,f1,f2,f3,f14,f15,f131,f132,f133,f140,f141,f142,rfl⟩;obtain⟨u,hu⟩:=yQ1 (l:=lu) (k:=b) (by rw[<- aA];exact hb);obtain⟨yy,bw,cu⟩:=d2.2 b u hu;have bh:lkAt links u≠[]:=λe=>by
       have h1:=be i u;rw[bH,e] at h1;have h3:0<lu.count u:=List.count_pos_iff.2 (lMg hu);rw[h1] at h3;simp at h3
      obtain⟨x,hx⟩:=ah.2 u bh;obtain⟨w,hw,cz⟩:∃w,S.2.1[u.1]?=some w/\w[u.2]?=some x:=by
       unfold atW at hx;cases hw:S.2.1[u.1]? with
       | none=>rw[hw] at hx;simp at hx
       | some w=>rw[hw] at hx;exact⟨w,rfl,hx⟩
      have di:S.2.1.length=lines.length:=by rw[<- E.mem.gll,bU]
      obtain⟨h,hh⟩:=yQ1 (l:=S.1) (k:=u.1) (by rw[E.mem.hl];have:=(lGs hw).1;omega);have cO:=wG2 gl gU gW gH rb lines.length _ _ _ _ S0 gs S.1 S.2.1 us u aw E w hw x cz h hh;rw[cu] at bw;have ac:yJc H S u=((A.take a).flatMap (usAt us)++lu.take (b+1)).foldl (yJc H) (hs,ws,[]):=by
       rw[yQ6 hu,<- List.append_assoc,List.foldl_append,<- ab];rfl
      have av:=ah.step (H:=H) (by omega) u;have bZ:atW (decW S.2.1 u) u=some ((x+255)%256):=by rw[zZt,if_pos rfl,hx];rfl
      have bI:u.1<lines.length:=by rw[<- E.mem.hl];exact (lGs hh).1
      simp only[go_sem,zE,zB,zA,zL,f14,f140,f141,f142,lt_i hb,yQ3 d3.es,iNn,bw,fits,IV.one];refine cO.mono ?_;rintro _ az ⟨rfl,ay,bY⟩;have aG:own az tq S.2.2.length 1 S0:=D.mono λg' G _=>bY _ _ _ G;have da:S.2.2.length<=20000:=by
       have h4:=ah.1;have h5:=List.count_le_length (a:=0) (l:=hs);have h6:=hR.len;omega
      by_cases aL:(x+255)%256=0/\h=0
      ·have hT:yJc H S u=(S.1.set u.1 H,decW S.2.1 u,S.2.2++[u.1]):=by
        unfold yJc;rw[if_pos ⟨by rw[bZ,aL.1],by rw[hh,aL.2]⟩]
       rw[hT] at ac av;have aJ:=ay.mem.hts;have aW:=ay.mem.rbx;simp only[List.cons_append,List.nil_append] at aW;simp only[go_sem,zE,zA,zL,dEt aL,f1,f15,f16,aW,aJ,yUu,fits,IV.one,Nat.mul_one,Nat.zero_add,iNn,bI,yQ4];have ai:List.take u.1 (yQj S.1)++[.raw (.int .i64 (H:Int))]++List.drop (u.1+1) (yQj S.1)=yQj (S.1.set u.1 H):=by
        rw[<- xY5,<- yKr (by rw[yQu,ay.mem.hl];exact bI)];rfl
       rw[if_pos (by rw[yQu,ay.mem.hl];omega),ai];have bn:=ay.setH u.1 H;have al:own (az.put gH (some (.box (yQj (S.1.set u.1 H))))) tq S.2.2.length 1 S0:=aG.mono λg' G _=>(yW4 aJ G).trans G;generalize az.put gH (some (.box (yQj (S.1.set u.1 H))))=bu at bn al ⊢;refine zUn al (zQi _) bn.base rfl (by simp[fits,IV.one]) (by simp only;omega) (by omega) λcj ba w1 w2 w3 w4=>?_;simp only[go_sem,zE,f1,f2,f3,f14,f15,f131,f132,f133,f140,f141,f142,yQc hb (show yu.length<=281474976710656 by omega)];exact⟨cj,_,ac,bn.far al w2 w3,av,by rw[lLa];exact w1,by simp[i32I]⟩
      ·have hF:yJc H S u=(S.1,decW S.2.1 u,S.2.2):=by
        unfold yJc;rw[if_neg λe=>aL ⟨by have:=e.1;rw[bZ] at this;exact Option.some.inj this,by have:=e.2;rw[hh] at this;exact Option.some.inj this⟩]
       rw[hF] at ac av;simp only[go_sem,zE,dEf aL,f1,f2,f3,f14,f15,f16,f131,f132,f133,f140,f141,f142,yQc hb (show yu.length<=281474976710656 by omega)];exact⟨tq,_,ac,ay,av,aG,rfl⟩
     ·rintro fr aw _ ⟨⟨tq,S,ab,E,ah,D,f16⟩,f1,f2,f3,f14,f15,f131,f132,f133,f140,f141,f142,rfl⟩;rw[aA,lTl] at ab;have b0:(A.take a).flatMap (usAt us)++lu=(A.take (a+1)).flatMap (usAt us):=by rw[yQ6 hi,List.flatMap_append,List.flatMap_singleton,bH]
      rw[b0] at ab;simp only[go_sem,zE,f1,f2,f3,f14,f15,f131,f132,f133,f141,f142,yQl (nLi _),yQc ha (show A.length<=281474976710656 by omega)];exact⟨tq,S,ab,E,ah,D,f16⟩
    ·rintro fr st4 _ ⟨⟨tq,S,ab,E,ah,D,f16⟩,f1,f2,f3,f14,f15,f131,f132,f133,rfl⟩;rw[lTl] at ab;have bO:=hR.next b5 be h2 bS;rw[<- ab] at bO;have hc:=ah.1;have c7:H<=20002:=by omega
     simp only[go_sem,zE,f1,f2,f3,f14,f15,f16,f132,f133,yQl (nLi _)];refine⟨2*S.1.count 0+(if S.2.2=[] then 0 else 1),?_,H+1,S.1,S.2.1,tq,S.2.2,rfl,by omega,?_,E,bO,D.es,rfl,by rw[yQc (Nat.lt_succ_self H) (by omega)]⟩
     ·by_cases h0:S.2.2=[]
      ·rw[h0,List.length_nil] at hc;rw[if_pos h0];omega
      ·have:=List.length_pos_iff.2 h0;rw[if_neg h0];omega
     ·by_cases h0:S.2.2=[]
      ·rw[h0,List.length_nil] at hc;rw[if_pos h0];omega
      ·have:=List.length_pos_iff.2 h0;rw[if_neg h0];omega
def BadR (ca:Nat)(s:Sq)(e:Nat):Prop:=((¬ (ca=1\/ca=2)/\e=2)\/((ca=1\/ca=2)/\yQm ca s=false/\e=190)\/((ca=1\/ca=2)/\yQm ca s=true/\zZw (calJ ca) (nf (s.l,s.r)) e))/\e=errN ca s
theorem BadR.ne {ca:Nat}{s:Sq}{e:Nat}(h:BadR ca s e):e≠0:=by
 rcases h.1 with⟨_,rfl⟩|⟨_,_,rfl⟩|⟨_,_,h|h⟩
 ·decide
 ·decide
 ·rw[h.1];decide
 ·rw[h.1];decide
theorem ExplR.split {ca:Nat}{s:Sq}{st st':ISt}{r:IV}(h:ExplR ca s st r st'):(∃e,BadR ca s e/\r=.tup [.raw (.pointer none),.raw (.int .i64 (e:Int))]/\st'=st) \/
  (errN ca s=0/\(ca=1\/ca=2)/\yQm ca s=true/\∃m tw xw rb mN lines links,okEs tw 4/\IsFms (spW s) xw/\r=.tup [ptr rb,.raw (.int .i64 0)]/\RS ca m (spW s) tw xw rb mN st st' lines links/\ExS ca (spW s) (nf (s.l,s.r)) lines links/\links.length=lines.length):=by
 rcases h with⟨hc,h1,h2⟩|⟨hc,hv,h1,h2⟩|⟨hc,hv,⟨e,h1,h2,A⟩|h⟩
 ·exact .inl ⟨2,⟨.inl ⟨hc,rfl⟩,by unfold errN;rw[if_neg hc]⟩,h1,h2⟩
 ·exact .inl ⟨190,⟨.inr (.inl ⟨hc,hv,rfl⟩),by unfold errN;rw[if_pos hc,if_neg (by rw[hv];simp)]⟩,h1,h2⟩
 ·exact .inl ⟨e,⟨.inr (.inr ⟨hc,hv,h1.1⟩),h1.2⟩,h2,A⟩
 ·obtain⟨m,tw,xw,rb,mN,lines,links,G,a2,a3,a4,a5,E,D⟩:=h;exact .inr ⟨D,hc,hv,m,tw,xw,rb,mN,lines,links,G,a2,a3,a4,a5,E⟩
theorem xWx (G:Gl gl)(T:Gt gl)(ca:Nat)(s:Sq)(x:IV)(hx:IsSq s x)(hs:yXq s)(st:ISt):ICall prog gl 15 [.raw (.int .u8 (ca:Int)),x] st (λr st'=>st'=st /\
  ((∃e,BadR ca s e/\r=.tup [.raw (.int .i64 0),.raw (.int .i64 (e:Int))])\/(errN ca s=0/\(ca=1\/ca=2)/\yQm ca s=true/\(∃K:List Sn,ReachOk (calJ ca) (nf (s.l,s.r)) K)/\r=.tup [.raw (.int .i64 (hF (calJ ca) (s.l,s.r):Int)),.raw (.int .i64 0)]))):=by
 have he:=wKg gl G T ca s x hx hs;obtain⟨t1,x1,t2,x2,rfl,e1,i1,e2,i2⟩:=hx;refine iI func15 ?_;simp only[go_sem,zE,zA,zL,reduceCtorEq];refine (he _).mono ?_;rintro r ab hr;rcases hr.split with⟨e,hb,rfl,rfl⟩|⟨ao,hc,hv,m,tw,xw,rb,mN,lines,links,ag,ac,rfl,U,hE,hl⟩
 ·have h0:decide ((e:Int)=0)=false:=dEf (by have:=hb.ne;omega);simp only[go_sem,zE,h0];exact yQ0 ⟨rfl,.inl ⟨e,hb,rfl⟩⟩
 ·obtain⟨hS,_,aq,aA⟩:=yG8 hc hv;obtain⟨tl,xl,tk,xk,aj,ae,ak,af,al⟩:=U.ex;have hA:=hE.all hl;have ah:=wWh gl ca m (spW s) hS tw xw ag ac aq lines links hA hE.len tl tk xl xk mN rb ae af ak.es al.es st ab aj U.off.1 U.base;simp only[go_sem,zE,zA,decide_true];refine ah.mono ?_;rintro _ ay ⟨rfl,gH,ai,D,an,aB,E,A⟩;obtain⟨ln,J,am⟩:=hE.start;have au:=(lGs J).1;obtain⟨h,hh⟩:=yQ1 (l:=ai) (k:=0) (by omega);have O:=hA.hF hS J (E 0 h hh);rw[am,vWi] at O;simp only[go_sem,zE,D,an,fits,au,yXx hh,Nat.zero_mul,Nat.add_zero,show ((0:Int)<=0)=True from eq_true (by decide),show Int.toNat 0=0 from rfl,IV.one];rw[<- O];exact⟨st,A,rfl,.inr ⟨ao,hc,hv,⟨_,hE.reach hS U.nd (Nat.le_of_eq hl.symm)⟩,rfl⟩⟩
theorem xWv (G:Gl gl)(T:Gt gl)(ca:Nat)(s:Sq)(x:IV)(A:IsSq s x)(hs:yXq s)(st:ISt):ICall prog gl 15 [.raw (.int .u8 (ca:Int)),x] st (λr st'=>st'=st /\
  ((∃e,BadR ca s e/\r=.tup [.raw (.int .i64 0),.raw (.int .i64 (e:Int))])\/((ca=1\/ca=2)/\yQm ca s=true/\(∃K:List Sn,ReachOk (calJ ca) (nf (s.l,s.r)) K)/\r=.tup [.raw (.int .i64 (hF (calJ ca) (s.l,s.r):Int)),.raw (.int .i64 0)]))) :=
 (xWx gl G T ca s x A hs st).mono λ_ _ ⟨h1,h2⟩=>⟨h1,h2.imp_right (·.2)⟩
noncomputable def leF (ca:Nat)(s:Sq):Nat×Nat:=(if errN ca s=0 then hF (calJ ca) (s.l,s.r) else 0,errN ca s)
theorem xWw (G:Gl gl)(T:Gt gl)(ca:Nat)(s:Sq)(x:IV)(E:IsSq s x)(hs:yXq s)(st:ISt):ICall prog gl 15 [.raw (.int .u8 (ca:Int)),x] st (λr st'=>(r=.tup [.raw (.int .i64 ((leF ca s).1:Int)),.raw (.int .i64 ((leF ca s).2:Int))] /\
  ((leF ca s).2=0->(ca=1\/ca=2)/\yQm ca s=true/\∃K:List Sn,ReachOk (calJ ca) (nf (s.l,s.r)) K))/\st'=st) :=
 (xWx gl G T ca s x E hs st).mono λr st' ⟨h1,h2⟩=>by
  rcases h2 with⟨e,D,rfl⟩|⟨h0,hc,hv,hK,rfl⟩
  ·obtain rfl:e=errN ca s:=D.2;have A:=D.ne;exact⟨⟨by simp only[leF,if_neg A];rfl,λh=>(A h).elim⟩,h1⟩
  ·exact⟨⟨by simp only[leF,h0];rfl,λ_=>⟨hc,hv,hK⟩⟩,h1⟩
theorem xX1 (s:Sn):ClF (nf s).1 (nf s).2↔ClF s.1 s.2:=by
 unfold ClF nf;simp only[yZg]
theorem wG8 (G:Gl gl)(T:Gt gl)(ca:Nat)(s:Sq)(x:IV)(hx:IsSq s x)(hs:yXq s)(st:ISt):ICall prog gl 95 [.raw (.int .u8 (ca:Int)),x] st (λr st'=>st'=st /\
  ((¬ (ca=1\/ca=2)/\r=.tup [.raw (.bool false),.raw (.int .i64 2)])\/((ca=1\/ca=2)/\yQm ca s=false/\r=.tup [.raw (.bool false),.raw (.int .i64 190)]) \/
   ((ca=1\/ca=2)/\yQm ca s=true/\∃b:Bool,(b=true↔ClF s.l s.r)/\r=.tup [.raw (.bool b),.raw (.int .i64 0)]))):=by
 have hb:=xKw gl G ca s x hx hs;have aa:=hx;obtain⟨t1,x1,t2,x2,rfl,e1,i1,e2,i2⟩:=hx;refine iI func95 ?_;simp only[go_sem,zE,zA,zL,reduceCtorEq];refine (hb _).mono ?_;rintro _ E (⟨hc,rfl,rfl⟩|⟨hc,hv,rfl,rfl⟩|⟨hc,hv,m,tw,xw,hm,O,J,rfl,rfl⟩)
 ·simp only[go_sem,zE,show decide ((2:Int)=0)=false from rfl];exact yQ0 ⟨rfl,.inl ⟨hc,rfl⟩⟩
 ·simp only[go_sem,zE,show decide ((190:Int)=0)=false from rfl];exact yQ0 ⟨rfl,.inr (.inl ⟨hc,hv,rfl⟩)⟩
 ·obtain⟨hS,_,ae,D⟩:=yG8 hc hv;have ag:=zZ1 hv;have A:=zGu D;simp only[go_sem,zE,zA,zL,decide_true];refine (xWp gl T ca m (spW s) tw xw O J hS.srt (Nat.le_trans ae (by omega)) s _ aa ⟨by omega,by omega⟩ D _).mono ?_;rintro z E ⟨hz,rfl⟩;have ac:=λst=>xKx gl ca m (spW s) hS tw xw O J _ A z hz st;obtain⟨ta,tb,rfl,ea,eb⟩:=hz;simp only[go_sem,zE,zA];refine (ac _).mono ?_;rintro _ E ⟨⟨zf,rfl,U⟩,rfl⟩;obtain⟨y1,y2,y3,y4,y5,y6,rfl⟩:=U.agg;simp only[go_sem,zE,zA,zL];refine⟨st,yQh hm,rfl,.inr (.inr ⟨hc,hv,_,?_,rfl⟩)⟩;rw[wV3 A.1,zXb hS.srt A,zXx hS.srt D];exact xX1 (s.l,s.r)
theorem xYq {W:List Fm}{l:List Nat}{k i:Nat}{f:Fm}(h:l[k]?=some i)(A:W[i]?=some f):fmW W (l.take (k+1))=fmW W (l.take k)++[f]:=by
 rw[yQ6 h];unfold fmW;rw[List.filterMap_append];simp[A]
theorem uJz (ca m:Nat)(W:List Fm)(hS:SpOk ca W)(tw:Tag)(xw:List IV)(aq:okEs tw 4)(ac:IsFms W xw)(ln:Ln)(J:LnOk W ln)(x:IV)(hx:IsLn ln x)(st:ISt) :
  ICall prog gl 120 [spI ca tw xw m,x] st (λr st'=>IsSq ⟨fmW W ln.1,fmW W ln.2⟩ r/\st'=st):=by
 obtain⟨ta,tb,rfl,ea,eb⟩:=hx;have aX:=yYw J.1.1 J.1.2;have aW:=yYw J.2.1 J.2.2;have aY:=hS.len;refine iI func120 ?_;simp only[go_sem,zE];intro _;refine LoopC.ctr (yQj ln.1).length (λk fr st' ds=>(∃t y,fr 5=.box [.sl t y,.sl ⟨true,.nil,0⟩ []]/\own st' t k 4 st/\subSt st st'/\IsFms (fmW W (ln.1.take k)) y/\y.length=k)/\fr 0=.iv (spI ca tw xw m)/\fr 3=.box [.sl ta (yQj ln.1),.sl tb (yQj ln.2)]/\fr 4=.box [.sl ⟨true,.nil,0⟩ [],.sl ⟨true,.nil,0⟩ []] /\
  fr 11=.iv (.sl ta (yQj ln.1))/\fr 12=.iv (.raw (.int .i64 (yQj ln.1).length))/\fr 13=.iv (.raw (.int .i64 (k:Int)))/\ds=[]) ?_ ?_ ?_
 ·simp only[go_sem,zE,reduceCtorEq];exact⟨⟨_,_,rfl,own.nil ..,subSt.refl _,rfl,rfl⟩,rfl⟩
 ·rintro k fr ab _ A ⟨⟨t1,y1,aa,E,D,hy,G⟩,f0,f3,f4,fl,fn,fk,rfl⟩;rw[yQu] at A;obtain⟨i,hi⟩:=yQ1 A;have O:=J.1.2 i (lMg hi);obtain⟨f,hf⟩:=yQ1 O;obtain⟨z,hz,U⟩:=ac.get hf;have ak:=λst=>yWm gl f z U (Nat.le_trans (hS.size (lMg hf)) (by omega)) st;have ao:i<xw.length:=by rw[ac.len];exact O
  cases f with
  | mk og ng ug sg =>
  obtain⟨aB,ax,aA,aw,rfl,aF⟩:=U.mk;simp only[go_sem,zE,zB,zA,reduceCtorEq,aa,f0,fl,fn,fk,lt_i (show k<(yQj ln.1).length by rw[yQu];exact A),yQ3 ea,yQ3 aq,iNn,yXx hi,hz,fits,IV.one];refine (ak _).mono ?_;rintro r ab ⟨hr,rfl⟩;obtain⟨o1,n1,t2,x2,t3,x3,rfl⟩:=IsFmD.aggs hr;simp only[go_sem,zE,zA,zM,zL,fits,yQ4];refine yZc E G D rfl (by simp[fits,IV.one]) (by simp only;omega) (by omega) λaf aD w1 w2 w3=>?_;simp only[go_sem,zE,zA,zL,reduceCtorEq,f0,f3,f4,fl,fn,fk,aa,yQc (show k<(yQj ln.1).length by rw[yQu];exact A) (show (yQj ln.1).length<=281474976710656 by rw[yQu];omega)];exact⟨af,_,rfl,w1,w2,by rw[xYq hi hf];exact hy.append (.one hr.1),by rw[lLa,G];rfl⟩
 ·rintro fr aO _ ⟨⟨t0,y0,f5,ah,ag,an,aJ⟩,f0,f3,f4,fl,fn,fk,rfl⟩;rw[yQu,lTl] at an;have aH:=ah.es;simp only[go_sem,zE,f3,fn,fk,yQl (nLi _)];intro _;refine LoopC.ctr (yQj ln.2).length (λk fr st' ds=>(∃t y,fr 5=.box [.sl t0 y0,.sl t y]/\own st' t k 4 st/\subSt st st'/\IsFms (fmW W (ln.2.take k)) y/\y.length=k)/\fr 0=.iv (spI ca tw xw m)/\fr 3=.box [.sl ta (yQj ln.1),.sl tb (yQj ln.2)]/\fr 4=.box [.sl ⟨true,.nil,0⟩ [],.sl ⟨true,.nil,0⟩ []] /\
   fr 32=.iv (.sl tb (yQj ln.2))/\fr 33=.iv (.raw (.int .i64 (yQj ln.2).length))/\fr 34=.iv (.raw (.int .i64 (k:Int)))/\ds=[]) ?_ ?_ ?_
  ·simp only[go_sem,zE,reduceCtorEq,f0,f3,f4,f5];exact⟨⟨_,_,rfl,own.nil ..,ag,rfl,rfl⟩,rfl⟩
  ·rintro k fr ab _ A ⟨⟨t1,y1,aa,E,D,hy,G⟩,f0,f3,f4,fl,fn,fk,rfl⟩;rw[yQu] at A;obtain⟨i,hi⟩:=yQ1 A;have O:=J.2.2 i (lMg hi);obtain⟨f,hf⟩:=yQ1 O;obtain⟨z,hz,U⟩:=ac.get hf;have ak:=λst=>yWm gl f z U (Nat.le_trans (hS.size (lMg hf)) (by omega)) st;have ao:i<xw.length:=by rw[ac.len];exact O
   cases f with
   | mk og ng ug sg =>
   obtain⟨aB,ax,aA,aw,rfl,aF⟩:=U.mk;simp only[go_sem,zE,zB,zA,reduceCtorEq,aa,f0,fl,fn,fk,lt_i (show k<(yQj ln.2).length by rw[yQu];exact A),yQ3 eb,yQ3 aq,iNn,yXx hi,hz,fits,IV.one];refine (ak _).mono ?_;rintro r ab ⟨hr,rfl⟩;obtain⟨o1,n1,t2,x2,t3,x3,rfl⟩:=IsFmD.aggs hr;simp only[go_sem,zE,zA,zM,zL,fits,yQ4];refine yZc E G D rfl (by simp[fits,IV.one]) (by simp only;omega) (by omega) λaf aD w1 w2 w3=>?_;simp only[go_sem,zE,zA,zL,reduceCtorEq,f0,f3,f4,fl,fn,fk,aa,yQc (show k<(yQj ln.2).length by rw[yQu];exact A) (show (yQj ln.2).length<=281474976710656 by rw[yQu];omega)];exact⟨af,_,rfl,w1,w2,by rw[xYq hi hf];exact hy.append (.one hr.1),by rw[lLa,G];rfl⟩
  ·rintro fr ab _ ⟨⟨t1,y1,f5,E,D,hy,G⟩,f0,f3,f4,fl,fn,fk,rfl⟩;rw[yQu,lTl] at hy;have aG:=E.es;simp only[go_sem,zE,zA,zL,f4,f5,fn,fk,yQl (nLi _)];exact⟨st,D,⟨t0,y0,t1,y1,rfl,aH,an,aG,hy⟩,rfl⟩
def yK8 (v:Nat×Fm×List Sn)(x:IV):Prop:=∃o n t1 E t2 D t3 A,x=.agg [.raw (.int .u8 (v.1:Int)),.raw (.int .u8 o),.raw (.string n),.sl t1 E,.sl t2 D,.sl t3 A]/\IsFm v.2.1 (.agg [.raw (.int .u8 o),.raw (.string n),.sl t1 E,.sl t2 D])/\okEs t3 2/\AllR (λp y=>IsSq ⟨p.1,p.2⟩ y) v.2.2 A
theorem wXp (G:Gl gl)(T:Gt gl)(ca:Nat)(s:Sq)(x:IV)(hx:IsSq s x)(hs:yXq s)(st:ISt):ICall prog gl 97 [.raw (.int .u8 (ca:Int)),x] st (λr st'=>st'=st /\
  ((¬ (ca=1\/ca=2)/\r=.tup [.sl ⟨true,.nil,0⟩ [],.raw (.int .i64 2)])\/((ca=1\/ca=2)/\yQm ca s=false/\r=.tup [.sl ⟨true,.nil,0⟩ [],.raw (.int .i64 190)]) \/
   ((ca=1\/ca=2)/\yQm ca s=true/\((zGt (calJ ca) (nf (s.l,s.r))/\r=.tup [.sl ⟨true,.nil,0⟩ [],.raw (.int .i64 5)])\/(¬ zGt (calJ ca) (nf (s.l,s.r))/\∃t ys,okEs t 6/\AllR yK8 (mvF (calJ ca) (nf (s.l,s.r))) ys/\r=.tup [.sl t ys,.raw (.int .i64 0)]))))):=by
 have hb:=xKw gl G ca s x hx hs;have bk:=hx;obtain⟨t1,x1,t2,x2,rfl,e1,i1,e2,i2⟩:=hx;refine ICall.introF (t:=6) (n:=2) (c:=cf prog gl [4,5,6,8,38] [(10,[0,1,2,3,4,6,7,12,5,8,9,10,11,13])] [3]) func97 rfl (by show _<=66;simp) (by show _<66;simp) (by kernel_rfl) ?_;simp only[go_sem,zE,zA,reduceCtorEq,fits];refine λb4=>yQ8 λh4=>λb5=>yQ8 λh5=>?_;have A:b5≠b4:=λe=>by rw[e,ISt.put_same] at h5;cases h5
 rw[yQ7 A] at h5;have sub0:subSt st ((st.put b4 (some (.box [.sl ⟨true,.nil,0⟩ []]))).put b5 (some (.box [.raw (.int .i64 0)]))):=yQa (yQh h4) h5;refine (hb _).mono ?_;rintro _ aS (⟨hc,rfl,rfl⟩|⟨hc,hv,rfl,rfl⟩|⟨hc,hv,m,tw,xw,hm,E,O,rfl,rfl⟩)
 ·simp only[go_sem,zE,zL];refine λb6=>yQ8 λD=>?_;have n6:b6≠b5:=λe=>by rw[e,ISt.put_same] at D;cases D
  rw[yQ7 n6] at D;have bg:b6≠b4:=λe=>by rw[e,ISt.put_same] at D;cases D
  refine⟨b6,.raw (.pointer none),by simp only[go_sem,zE],ISt.put_same ..,?_⟩;rw[yK0 (by rw[yQ7 n6];exact D)];simp only[go_sem,zE,zL,show decide ((2:Int)=0)=false from rfl,yQ7 A.symm,yQ7 A];exact⟨st,yQa (yQa sub0 h4) h5,rfl,.inl ⟨hc,rfl⟩⟩
 ·simp only[go_sem,zE,zL];refine λb6=>yQ8 λD=>?_;have n6:b6≠b5:=λe=>by rw[e,ISt.put_same] at D;cases D
  rw[yQ7 n6] at D;have bg:b6≠b4:=λe=>by rw[e,ISt.put_same] at D;cases D
  refine⟨b6,.raw (.pointer none),by simp only[go_sem,zE],ISt.put_same ..,?_⟩;rw[yK0 (by rw[yQ7 n6];exact D)];simp only[go_sem,zE,zL,show decide ((190:Int)=0)=false from rfl,yQ7 A.symm,yQ7 A];exact⟨st,yQa (yQa sub0 h4) h5,rfl,.inr (.inl ⟨hc,hv,rfl⟩)⟩
 ·obtain⟨hS,_,aG,aE⟩:=yG8 hc hv;have bG:=zZ1 hv;have U:=zGu aE;have aX:=zXx hS.srt aE;simp only[go_sem,zE,zL];refine λb6=>yQ8 λD=>?_;have bU:b6≠m:=λe=>by rw[e,ISt.put_same] at D;cases D
  refine⟨b6,spI ca tw xw m,by simp only[go_sem,zE],ISt.put_same ..,?_⟩;rw[yK0 D,show age (spI ca tw xw m)=spI ca ⟨false,tw.cap,tw.es⟩ (ages xw) m by simp only[age,ages]];replace E:okEs ⟨false,tw.cap,tw.es⟩ 4:=E;replace O:=O.aged;generalize (⟨false,tw.cap,tw.es⟩:Tag)=tw at E ⊢;generalize ages xw=xw at O ⊢;simp only[go_sem,zE,zA,decide_true];refine λb8=>yQ8 λh8=>?_;refine (xWp gl T ca m (spW s) tw xw E O hS.srt (Nat.le_trans aG (by omega)) s _ bk ⟨by omega,by omega⟩ aE _).mono ?_;rintro z aS ⟨hz,rfl⟩;have bq:=λst=>wXo gl m (spI ca tw xw m) z _ rfl _ hz st;have br:=xWk gl G T ca m _ hS aG tw xw E O _ U z hz;obtain⟨ta,tb,rfl,ea,eb⟩:=id hz;simp only[go_sem,zE,zA];refine (bq _).mono ?_;rintro _ aS ⟨rfl,rfl⟩;simp only[go_sem,reduceCtorEq];have aZ:m≠b5:=λe=>by rw[e,ISt.put_same] at hm;cases hm
  rw[yQ7 aZ] at hm;have a1:m≠b4:=λe=>by rw[e,ISt.put_same] at hm;cases hm
  rw[yQ7 a1] at hm;have aH:b8≠m:=λe=>by rw[e,ISt.put_same] at h8;cases h8
  rw[yQ7 aH] at h8;have aI:b8≠b5:=λe=>by rw[e,ISt.put_same] at h8;cases h8
  rw[yQ7 aI] at h8;have aJ:b8≠b4:=λe=>by rw[e,ISt.put_same] at h8;cases h8
  rw[yQ7 aJ] at h8;generalize ak:((((st.put b4 (some (.box [.sl ⟨true,.nil,0⟩ []]))).put b5 (some (.box [.raw (.int .i64 0)]))).put m (some (.map .pl []))).put b8 (some (.box [.sl ⟨true,.nil,0⟩ []])))=sA;have aw:IsFms (setF (yZr (s.l++s.r))) xw:=O;generalize hW:setF (yZr (s.l++s.r))=W at *;generalize bF:zXj W (s.l,s.r)=ln at *
  let EI:Nat->ISt->Prop:=λk s'=>∃(vs:List Mv) (t8:Tag) (ys:List IV),(cutO (mvsN W (calJ ca) ln)).take k=vs.map some/\AllR yK8 (vs.map (mvW W)) ys/\SpSt ca m W s'/\s' b4=some (.box [.sl ⟨true,.nil,0⟩ []])/\s' b5=some (.box [.raw (.int .i64 0)])/\s' b8=some (.box [.sl t8 ys])/\own s' t8 vs.length 6 st/\subSt st s'
  let ES:Exit->ISt->Prop:=λe s'=>e=.ret/\s' b4=some (.box [.sl ⟨true,.nil,0⟩ []])/\s' b5=some (.box [.raw (.int .i64 5)])/\none∈mvsN W (calJ ca) ln/\subSt st s'
  refine RangeU.intro (mvX W (calJ ca) ln) (cutO (mvsN W (calJ ca) ln)).length EI ES (SpUp ca m W) ?_ (by simp only[go_sem]) ?_ ?_ ?_ (br.of λk s ⟨_,_,_,_,_,h,_⟩=>h) ?_ ?_
  ·rintro k s' m' kk es bu ⟨vs,t8,ys,q1,q2,⟨aq,q3,bf⟩,q4,q5,q6,q7,q8⟩ a6 ⟨rfl,hu⟩;rw[q3] at a6;cases a6;have e4:b4≠m':=λe=>by rw[e,q3] at q4;cases q4
   have e5:b5≠m':=λe=>by rw[e,q3] at q5;cases q5
   have e8:b8≠m':=λe=>by rw[e,q3] at q6;cases q6
   exact⟨vs,t8,ys,q1,q2,⟨bu,ISt.put_same ..,hu bf⟩,by rw[yQ7 e4];exact q4,by rw[yQ7 e5];exact q5,by rw[yQ7 e8];exact q6,q7.mono λg hg _=>(by rw[yQ7 λe=>(by rw[e,q3] at hg;cases hg)];exact hg),yQa q8 hm⟩
  ·rintro k a ⟨o,_,ho⟩;cases o with
   | none=>rw[show a=_ from ho];rfl
   | some v=>obtain⟨x,rfl,_⟩:=ho;rfl
  ·exact⟨[],⟨true,.nil,0⟩,[],rfl,AllR.nil,⟨[],by rw[<- ak,yQ7 aH.symm,ISt.put_same],λp hp=>by cases hp⟩,by rw[<- ak,yQ7 aJ.symm,yQ7 a1.symm,yQ7 A.symm,ISt.put_same],
    by rw[<- ak,yQ7 aI.symm,yQ7 aZ.symm,ISt.put_same],by rw[<- ak,ISt.put_same],own.nil ..,by rw[<- ak];exact yQa (yQa sub0 hm) h8⟩
  ·rintro k a s' ⟨o,ah,ho⟩ ⟨vs,t8,ys,q1,q2,q3,q4,q5,q6,q7,q8⟩;cases o with
   | none =>
    obtain rfl:a=_:=ho;have aD:none∈mvsN W (calJ ca) ln:=by
     have h1:∀l:List (Option Mv),none∈cutO l->none∈l:=λl=>by
      induction l with
      | nil=>exact id
      | cons a l ih =>
       cases a with
       | none=>exact λ_=>.head _
       | some a =>
        intro h;simp only[cutO] at h;rcases List.mem_cons.1 h with h|h
        ·cases h
        ·exact .tail _ (ih h)
     exact h1 _ (lMg ah)
    simp only[go_sem,zE,zA,zL,show decide ((5:Int)=0)=false from rfl,q4,q5,yQ7 A];exact⟨rfl,by rw[yQ7 A.symm,ISt.put_same],ISt.put_same ..,aD,yQa (yQa q8 h4) h5⟩
   | some v =>
    obtain⟨xv,rfl,tv,zv,rfl,bn,aB⟩:=ho;have bm:some v∈mvsN W (calJ ca) ln:=by
     have h1:∀l:List (Option Mv),some v∈cutO l->some v∈l:=λl=>by
      induction l with
      | nil=>exact id
      | cons a l ih =>
       cases a with
       | none=>intro h;simp[cutO] at h
       | some a =>
        intro h;simp only[cutO] at h;rcases List.mem_cons.1 h with h|h
        ·rw[h];exact .head _
        ·exact .tail _ (ih h)
     exact h1 _ (lMg ah)
    obtain⟨g1,g2,g3,g4⟩:=zXt hS U bm;obtain⟨f,hf⟩:=yQ1 g1;obtain⟨z,hz,a7⟩:=aw.get hf;have bt:=λst=>yWm gl f z a7 (Nat.le_trans (hS.size (lMg hf)) (by omega)) st;obtain⟨og,ng,ug,sg,rfl⟩:∃o n u s,f=.mk o n u s:=by cases f;exact⟨_,_,_,_,rfl⟩
    obtain⟨bP,bJ,bO,bI,rfl,bY⟩:=a7.mk;simp only[go_sem,zE,zB,zA,zL,fits,decide_true,yQ3 E,iNn,hz,IV.one];refine (bt _).mono ?_;rintro r s2 ⟨hr,rfl⟩;obtain⟨o1,n1,t5,x5,t6,x6,rfl⟩:=IsFmD.aggs hr;simp only[go_sem,zE,zA,zL,fits];intro _;refine LoopC.ctr zv.length (λq fr st' ds=>(∃t3 x3,fr 11=.box [.raw (.int .u8 (v.1:Int)),.raw (.int .u8 o1),.raw (.string n1),.sl t5 x5,.sl t6 x6,.sl t3 x3]/\AllR (λp y=>IsSq ⟨p.1,p.2⟩ y) ((v.2.2.take q).map (lnW W)) x3/\own st' t3 q 2 st/\SpSt ca m W st'/\st' b4=some (.box [.sl ⟨true,.nil,0⟩ []])/\st' b5=some (.box [.raw (.int .i64 0)]) /\
     st' b8=some (.box [.sl t8 ys])/\own st' t8 vs.length 6 st/\subSt st st')/\fr 6=.iv (.cptr (spI ca tw xw m))/\fr 46=.iv (.sl tv zv)/\fr 47=.iv (.raw (.int .i64 zv.length))/\fr 48=.iv (.raw (.int .i64 (q:Int)))/\fr 4=.iv (ptr b4)/\fr 5=.iv (ptr b5)/\fr 8=.iv (ptr b8)/\ds=[]) ?_ ?_ ?_
    ·simp only[go_sem,zE];exact⟨⟨_,_,rfl,AllR.nil,own.nil ..,q3,q4,q5,q6,q7,q8⟩,rfl⟩
    ·rintro q fr s3 _ hq ⟨⟨t3,x3,f11,aj,J,q3,q4,q5,q6,q7,q8⟩,f6,f46,f47,f48,f4,f5,f8,rfl⟩;have aC:=aB.1;obtain⟨p,hp⟩:=yQ1 (l:=v.2.2) (k:=q) (by rw[<- aC];exact hq);obtain⟨zq,bi,av⟩:=aB.2 q p hp;obtain⟨g5,g6⟩:=g4 p (lMg hp);have bo:=λst=>uJz gl ca m W hS tw xw E aw p g5 zq av st;obtain⟨bR,bQ,rfl,b9,b7⟩:=av;simp only[go_sem,zE,zB,zA,zL,f11,f6,f46,f47,f48,lt_i hq,yQ3 bn,iNn,bi,fits,IV.one];refine (bo _).mono ?_;rintro _ s3 ⟨⟨t7,x7,t9,x9,rfl,e7,i7,e9,i9⟩,rfl⟩;have aV:x3.length=q:=by rw[aj.1,List.length_map,List.length_take];omega
     simp only[go_sem,zE,zA,zM,zL,fits,yQ4];refine yZc J aV q8 rfl (by simp[fits,IV.one]) (by simp only;omega) (by omega) λbe s4 w1 w2 w3=>?_;obtain⟨aq,u1,u2⟩:=q3;simp only[go_sem,zE,zA,zL,f11,f6,f46,f47,f48,f4,f5,f8,yQc hq (show zv.length<=281474976710656 by omega)];refine⟨be,_,rfl,?_,w1,⟨aq,w3 _ _ u1 (λn h=>by cases h),u2⟩,w3 _ _ q4 (λn h=>by cases h),w3 _ _ q5 (λn h=>by cases h),w3 _ _ q6 (λn h=>by cases h),w3.own q7 (by decide),w2⟩;rw[yQ6 hp,List.map_append];exact aj.snoc ⟨t7,x7,t9,x9,rfl,e7,i7,e9,i9⟩
    ·rintro fr s3 _ ⟨⟨t3,x3,f11,aj,J,q3,q4,q5,q6,q7,q8⟩,f6,f46,f47,f48,f4,f5,f8,rfl⟩;have aC:=aB.1;rw[aC,lTl] at aj;have bj:ys.length=vs.length:=by rw[q2.1,List.length_map]
     have bW:vs.length<=16000000:=by
      have h1:∀l:List (Option Mv),(cutO l).length<=l.length:=λl=>by
       induction l with
       | nil=>exact Nat.le_refl _
       | cons a l ih =>
        cases a with
        | none=>simp[cutO]
        | some a=>simp only[cutO,List.length_cons];omega
      have h2:=congrArg List.length q1;rw[List.length_take,List.length_map] at h2;have h3:=h1 (mvsN W (calJ ca) ln);have h4:=zGr hS aG U;omega
     simp only[go_sem,zE,zA,zM,zL,f11,f47,f48,f8,yQl (nLi _),q6,fits,yQ4];refine yZc q7 bj q8 rfl (by simp[fits,IV.one]) (by simp only;omega) (by omega) λbd s4 w1 w2 w3=>?_;have a8:=w3 _ _ q6 (λn h=>by cases h);simp only[go_sem,zE,zL,f8,a8];obtain⟨aq,u1,u2⟩:=q3;refine⟨vs++[v],bd,_,?_,?_,⟨aq,by rw[yQ7 aH.symm];exact w3 _ _ u1 (λn h=>by cases h),u2⟩,by rw[yQ7 aJ.symm];exact w3 _ _ q4 (λn h=>by cases h),by rw[yQ7 aI.symm];exact w3 _ _ q5 (λn h=>by cases h),ISt.put_same ..,?_,yQa w2 h8⟩
     ·rw[yQ6 ah,q1,List.map_append];rfl
     ·rw[List.map_append];refine q2.snoc ⟨o1,n1,t5,x5,t6,x6,t3,x3,rfl,?_,J.es,aj⟩;show IsFm ((W[v.2.1]?).getD fm0) _;rw[hf];exact hr.1
     ·rw[lLa];refine w1.mono λg hg _=>?_;rw[yQ7 λe=>by rw[e,a8] at hg;cases hg];exact hg
  ·rintro s' rr ⟨vs,t8,ys,q1,q2,q3,q4,q5,q6,q7,q8⟩;rw[lTl] at q1;have ay:mvsN W (calJ ca) ln=vs.map some:=by
    have h1:∀l:List (Option Mv),none ∉ cutO l->cutO l=l:=λl=>by
     induction l with
     | nil=>intro _;rfl
     | cons a l ih =>
      intro h;cases a with
      | none=>exact absurd (.head _) h
      | some a=>simp only[cutO] at h ⊢;rw[ih λh'=>h (.tail _ h')]
    rw[<- q1,h1];rw[q1];simp
   have aY:=xJu hS U ay;have ai:=zXs hS U (j:=calJ ca);rw[aX] at aY ai;simp only[go_sem,zE,zL,q4,q5,q6,yQ7 A,yQ7 A.symm];refine⟨st,yQa (yQa q8 h4) h5,rfl,.inr (.inr ⟨hc,hv,.inr ⟨λh=>?_,t8,ys,q7.es,by rw[aY];exact q2,rfl⟩⟩)⟩;have:=ai.2 h;rw[ay] at this;simp at this
  ·rintro e s' rr ⟨rfl,w1,w2,w3,w4⟩;simp only[go_sem,zE,w1,w2];have ai:=(zXs hS U (j:=calJ ca)).1 w3;rw[aX] at ai;exact⟨st,w4,rfl,.inr (.inr ⟨hc,hv,.inl ⟨ai,rfl⟩⟩)⟩
end Go.Proofs.Tryz
namespace Go.Proofs.Tryz
open Go Go.Iv
noncomputable def insC (a:Fm):List Fm->List Fm
 | []=>[a]
 | b::l=>if yZa a b<0 then a::b::l else if yZa a b=0 then b::l else b::insC a l
noncomputable def setC:List Fm->List Fm
 | []=>[]
 | a::l=>insC a (setC l)
theorem zU3 {a x:Fm}:∀ {l:List Fm},x∈insC a l↔x=a\/x∈l
 | []=>by simp[insC]
 | b::l=>by
  unfold insC;split
  ·simp
  ·split
   ·rename_i h;rw[(yXp a b).1 h];simp
   ·rw[List.mem_cons,zU3,List.mem_cons];grind
theorem xY8 {a:Fm}:∀ {l:List Fm},l.Pairwise (λx y=>yZa x y<0)->(insC a l).Pairwise (λx y=>yZa x y<0)
 | [],_=>by simp[insC]
 | b::l,h=>by
  obtain⟨h1,h2⟩:=List.pairwise_cons.1 h;unfold insC;split
  ·rename_i D;refine List.pairwise_cons.2 ⟨λx A=>?_,h⟩;rcases List.mem_cons.1 A with rfl|A
   ·exact D
   ·exact yWx _ _ _ D (h1 x A)
  ·split
   ·exact h
   ·rename_i E h0;refine List.pairwise_cons.2 ⟨λx A=>?_,xY8 h2⟩;rcases zU3.1 A with rfl|A
    ·have:=yWe x b;omega
    ·exact h1 x A
theorem wZt:∀l:List Fm,SetF l (setC l)
 | []=>⟨List.Pairwise.nil,λ_=>Iff.rfl⟩
 | a::l=>by
  obtain⟨h1,h2⟩:=wZt l;refine⟨xY8 h1,λf=>?_⟩;show f∈insC a (setC l)↔_;rw[zU3,h2,List.mem_cons]
theorem wU0 (l:List Fm):setF l=setC l:=yKq (wZt l)
noncomputable def nfC (s:Sn):Sn:=(setC s.1,setC s.2)
theorem nf_C (s:Sn):nf s=nfC s:=by unfold nf nfC;rw[wU0,wU0]
noncomputable def pmC (j:Bool)(s p:Sn):Sn:=nfC (s.1++p.1,rgt j s.2 p.2)
noncomputable def mvC (j:Bool)(s:Sn):List (List Sn):=(s.1.flatMap λf=>(addF j f false).map λt=>t.2.map (pmC j s))++s.2.flatMap λf=>(addF j f true).map λt=>t.2.map (pmC j s)
theorem vW5 (j:Bool)(s:Sn):(mvF j s).map (λm=>m.2.2)=mvC j s:=by
 have key:∀(r:Bool) (l:List Fm),(l.flatMap (yW7 j s r)).map (λm=>m.2.2)=l.flatMap λf=>(addF j f r).map λt=>t.2.map (pmC j s):=λr l=>by
  rw[List.map_flatMap];congr 1;funext f;unfold yW7;rw[List.map_map];refine List.map_congr_left λt _=>?_;refine List.map_congr_left λp _=>?_;exact nf_C _
 unfold mvF mvC;rw[List.map_append,key,key]
noncomputable def clC (s:Sn):Bool:=s.1.any λf=>s.2.any (λg=>decide (yZa f g=0)) || zZj f
theorem zVd (s:Sn):clC s=true↔ClF s.1 s.2:=by
 unfold clC ClF;simp only[List.any_eq_true,Bool.or_eq_true,dTe,yXp];constructor
 ·rintro⟨f,A,⟨g,D,rfl⟩|h⟩
  ·exact .inl ⟨_,A,D⟩
  ·exact .inr ⟨f,A,h⟩
 ·rintro (⟨f,h1,h2⟩|⟨f,h1,h2⟩)
  ·exact⟨f,h1,.inl ⟨f,h2,rfl⟩⟩
  ·exact⟨f,h1,.inr h2⟩
theorem wQg {j r:Bool}{f:Fm}{t:Nat×List Sn}(h:t∈addF j f r):∀p∈t.2,p.1.length<=2/\p.2.length<=2:=by
 unfold addF at h;split at h
 case h_5=>split at h<;>simp at h<;>(try rcases h with rfl|rfl)<;>(try subst h)<;>simp
 all_goals (first|(simp at h;subst h;simp)|(simp at h))
def at0 (l:List Nat)(i:Nat):Nat:=(l[i]?).getD 0
noncomputable def vWz:DecidableEq Fm:=λa b=>decidable_of_iff (yZa a b=0) (yXp a b)
def vGm (n:Nat)(cl:List Bool)(lk:List (List (List Nat)))(hs:List Nat):Bool :=
 (List.range n).all λi=>(decide (i=0) || (List.range i).any λk=>!((cl[k]?).getD true)&&((lk[k]?).getD []).any (·.contains i)) &&
  (if (cl[i]?).getD true=true then decide (at0 hs i=1) else
   (decide (at0 hs i=0) || ((lk[i]?).getD []).any λps=>ps.all λp=>decide (0<at0 hs p)&&decide (at0 hs p<at0 hs i)) &&
   (((lk[i]?).getD []).all λps=>(ps.all λp=>decide (p<n))&&((ps.any λp=>decide (at0 hs p=0)) || (decide (0<at0 hs i)&&ps.any λp=>decide (at0 hs i<=at0 hs p+1)))))
structure Cert (j:Bool)(K:List Sn)(cl:List Bool)(lk:List (List (List Nat)))(hs:List Nat):Prop where
 norm:K.map nfC=K
 nd:K.Nodup
 cls:K.map clC=cl
 mvs:K.map (λs=>if clC s=true then [] else mvC j s)=lk.map (·.map (·.map λn=>(K[n]?).getD ([],[])))
 num:vGm K.length cl lk hs=true
 short:(K.all λs=>decide (s.1.length<=60)&&decide (s.2.length<=60))=true
 len:K.length<=20000
section
variable {j:Bool}{K:List Sn}{cl:List Bool}{lk:List (List (List Nat))}{hs:List Nat}(h:Cert j K cl lk hs)
include h
theorem Cert.at_ {i:Nat}{s:Sn}(A:K[i]?=some s):(cl[i]?).getD true=clC s/\(clC s=false->mvC j s=((lk[i]?).getD []).map (·.map λn=>(K[n]?).getD ([],[]))):=by
 have h1:cl[i]?=some (clC s):=by rw[<- h.cls,List.getElem?_map,A];rfl
 have h2:=congrArg (λl=>l[i]?) h.mvs;simp only[List.getElem?_map,A,Option.map_some] at h2;refine⟨by rw[h1];rfl,λhc=>?_⟩;rw[hc] at h2;simp only[bFt,if_false] at h2;cases hl:lk[i]? with
 | none=>rw[hl] at h2;cases h2
 | some l=>rw[hl] at h2;exact Option.some.inj h2
theorem Cert.num_ {i:Nat}(A:i<K.length):(i=0\/∃k,k<i/\(cl[k]?).getD true=false/\∃ps∈(lk[k]?).getD [],i∈ps)/\((cl[i]?).getD true=true->at0 hs i=1) /\
  ((cl[i]?).getD true=false->(at0 hs i=0\/∃ps∈(lk[i]?).getD [],∀p∈ps,0<at0 hs p/\at0 hs p<at0 hs i)/\∀ps∈(lk[i]?).getD [],(∀p∈ps,p<K.length)/\((∃p∈ps,at0 hs p=0)\/(0<at0 hs i/\∃p∈ps,at0 hs i<=at0 hs p+1))):=by
 have:=List.all_eq_true.1 h.num i (List.mem_range.2 A);rw[bAt] at this;obtain⟨h1,h2⟩:=this;refine⟨?_,λhc=>?_,λhc=>?_⟩
 ·simp only[Bool.or_eq_true,dTe,List.any_eq_true,List.mem_range,bAt,Bool.not_eq_true',List.contains_iff_mem] at h1;exact h1
 ·rw[if_pos hc] at h2;exact of_decide_eq_true h2
 ·rw[if_neg (by rw[hc];exact Bool.false_ne_true)] at h2;simp only[Bool.or_eq_true,dTe,List.any_eq_true,bAt,List.all_eq_true] at h2;exact h2
theorem Cert.mv {i:Nat}{s:Sn}(D:K[i]?=some s)(hc:clC s=false)(P:List Sn->Prop):(∃m∈mvF j s,P m.2.2)↔∃ps∈(lk[i]?).getD [],P (ps.map λn=>(K[n]?).getD ([],[])):=by
 have h1:=(h.at_ D).2 hc;rw[<- vW5] at h1;constructor
 ·rintro⟨m,A,hp⟩;have:m.2.2∈(mvF j s).map (λm=>m.2.2):=List.mem_map_of_mem A;rw[h1] at this;obtain⟨ps,h2,G⟩:=List.mem_map.1 this;exact⟨ps,h2,G▸hp⟩
 ·rintro⟨ps,h2,hp⟩;have:(ps.map λn=>(K[n]?).getD ([],[]))∈(mvF j s).map (λm=>m.2.2):=by rw[h1];exact List.mem_map_of_mem h2
  obtain⟨m,A,E⟩:=List.mem_map.1 this;exact⟨m,A,E▸hp⟩
theorem Cert.up:∀(x i:Nat)(s:Sn),K[i]?=some s->at0 hs i=x->0<x->HtS j x s:=by
 intro x
 induction x using Nat.strongRecOn with
 | ind x ih =>
  intro i s E hx h0;have D:=(lGs E).1;obtain⟨_,n1,U⟩:=h.num_ D;obtain⟨y,rfl⟩:∃y,x=y+1:=⟨x-1,by omega⟩
  rw[zJ3];cases hc:clC s with
  | true=>exact .inl ((zVd s).1 hc)
  | false =>
   refine .inr ((h.mv E hc λl=>∀p∈l,HtS j y p).2 ?_);obtain⟨G,O⟩:=U (by rw[(h.at_ E).1];exact hc);rcases G with G|⟨ps,h1,h2⟩
   ·omega
   ·refine⟨ps,h1,λp hp=>?_⟩;obtain⟨n,J,rfl⟩:=List.mem_map.1 hp;have A:=(O ps h1).1 n J;obtain⟨a,b⟩:=h2 n J;rw[List.getElem?_eq_getElem A,Option.getD_some];have:=ih (at0 hs n) (by omega) n _ (List.getElem?_eq_getElem A) rfl a;exact this.up (by omega)
theorem Cert.lo:∀(n i:Nat)(s:Sn),K[i]?=some s->HtS j n s->0<at0 hs i/\at0 hs i<=n
 | 0,_,_,_,A=>A.elim
 | n+1,i,s,J,A=>by
  have G:=(lGs J).1;obtain⟨_,n1,n2⟩:=h.num_ G;have E:=(h.at_ J).1;cases hc:clC s with
  | true =>
   have:=n1 (by rw[E];exact hc);omega
  | false =>
   obtain⟨_,n4⟩:=n2 (by rw[E];exact hc);rw[zJ3] at A;rcases A with A|A
   ·rw[<- zVd,hc] at A;cases A
   ·obtain⟨ps,h1,h2⟩:=(h.mv J hc λl=>∀p∈l,HtS j n p).1 A;obtain⟨O,U⟩:=n4 ps h1;have hp:∀p∈ps,0<at0 hs p/\at0 hs p<=n:=λp hp=>by
     have:=h2 _ (List.mem_map_of_mem hp);rw[List.getElem?_eq_getElem (O p hp),Option.getD_some] at this;exact Cert.lo n p _ (List.getElem?_eq_getElem (O p hp)) this
    rcases U with⟨p,D,h0⟩|⟨h0,p,D,ae⟩
    ·have:=(hp p D).1;omega
    ·have:=(hp p D).2;exact⟨h0,by omega⟩
theorem Cert.hF {i:Nat}{s:Sn}(A:K[i]?=some s):Tryz.hF j s=at0 hs i :=
 wYo (λh0=>h.up _ i s A rfl h0) λn D=>h.lo n i s A D
theorem Cert.reach {s0:Sn}(h0:K[0]?=some s0):ReachOk j s0 K:=by
 have hr:∀(i:Nat) (s:Sn),K[i]?=some s->Rch j s0 s:=by
  intro i
  induction i using Nat.strongRecOn with
  | ind i O =>
   intro s A;have ac:=(lGs A).1;rcases (h.num_ ac).1 with rfl|⟨k,hk,af,ps,E,ae⟩
   ·rw[h0] at A;cases A;exact .refl
   ·obtain⟨sk,D⟩:=yQ1 (l:=K) (k:=k) (by omega);have hc:clC sk=false:=by rw[<- (h.at_ D).1];exact af
    obtain⟨m,hm,aa⟩:=(h.mv D hc λl=>s∈l).2 ⟨ps,E,List.mem_map.2 ⟨i,ae,by rw[A];rfl⟩⟩;exact .step (O k hk sk D) (λhx=>by rw[<- zVd,hc] at hx;cases hx) hm aa
 refine⟨h.nd,λs=>⟨λhs=>?_,λhs=>?_⟩,λs hs hc=>?_,h.len⟩
 ·obtain⟨i,A,rfl⟩:=List.mem_iff_getElem.1 hs;exact hr i _ (List.getElem?_eq_getElem A)
 ·induction hs with
  | refl=>exact lMg h0
  | @step s _ hc m hm p hp O =>
   obtain⟨i,A,rfl⟩:=List.mem_iff_getElem.1 O;have J:clC K[i]=false:=by
    cases hq:clC K[i] with
    | false=>rfl
    | true=>exact absurd ((zVd _).1 hq) hc
   obtain⟨ps,E,U⟩:=(h.mv (List.getElem?_eq_getElem A) J λl=>p∈l).1 ⟨m,hm,hp⟩;obtain⟨n,hn,rfl⟩:=List.mem_map.1 U;have G:=(((h.num_ A).2.2 (by rw[(h.at_ (List.getElem?_eq_getElem A)).1];exact J)).2 ps E).1 n hn;rw[List.getElem?_eq_getElem G];exact List.getElem_mem G
 ·rintro⟨f,r,hf,t,ht,p,hp,hl⟩;have h1:=wQg ht p hp;have h2:=List.all_eq_true.1 h.short s hs;simp only[bAt,dTe] at h2;unfold tooL at hl;split at hl<;>omega
end
set_option maxRecDepth 100000
abbrev faP:Fm:=.mk 1 ⟨#[80]⟩ [] []
abbrev faQ:Fm:=.mk 1 ⟨#[81]⟩ [] []
abbrev fno (a:Fm):Fm:=.mk 3 noN [] [a]
abbrev fbi (o:Nat)(a b:Fm):Fm:=.mk o noN [] [a,b]
noncomputable def vVx (K:List Sn):Decidable K.Nodup:=@List.nodupDecidable Sn (@instDecidableEqProd _ _ (@instDecidableEqList _ vWz) (@instDecidableEqList _ vWz)) K
theorem yV4 {j:Bool}{K:List Sn}{cl:List Bool}{lk:List (List (List Nat))}{hs:List Nat}(h1:K.map nfC=K)(h2:@decide K.Nodup (vVx K)=true)(J:K.map clC=cl)
  (G:K.map (λs=>if clC s=true then [] else mvC j s)=lk.map (·.map (·.map λn=>(K[n]?).getD ([],[])))) (E:vGm K.length cl lk hs=true) (D:(K.all λs=>decide (s.1.length<=60)&&decide (s.2.length<=60))=true) (A:K.length<=20000):Cert j K cl lk hs :=
 ⟨h1,@of_decide_eq_true K.Nodup (vVx K) h2,J,G,E,D,A⟩
def c1K:List Sn:=[([faP,(fbi 6 faP faQ)],[faQ]),([faP,(fbi 6 faP faQ)],[faP]),([faP,faQ,(fbi 6 faP faQ)],[faQ])]
theorem c1:Cert true c1K [false,true,true] [[[1,2]],[],[]] [2,1,1]:=yV4 (by kernel_rfl) (by kernel_rfl) (by kernel_rfl) (by kernel_rfl) (by kernel_rfl) (by kernel_rfl) (by decide)
def c2K:List Sn:=[([],[(fbi 5 faP (fno faP))]),([],[faP,(fno faP),(fbi 5 faP (fno faP))]),([faP],[faP,(fno faP),(fbi 5 faP (fno faP))])]
theorem c2:Cert false c2K [false,false,true] [[[1]],[[2],[1]],[]] [3,2,1]:=yV4 (by kernel_rfl) (by kernel_rfl) (by kernel_rfl) (by kernel_rfl) (by kernel_rfl) (by kernel_rfl) (by decide)
def c3K:List Sn:=[([],[(fbi 5 faP (fno faP))]),([],[faP]),([],[(fno faP)]),([faP],[(fno faP)])]
theorem c3:Cert true c3K [false,false,false,false] [[[1],[2]],[],[[3]],[[3]]] [0,0,0,0]:=yV4 (by kernel_rfl) (by kernel_rfl) (by kernel_rfl) (by kernel_rfl) (by kernel_rfl) (by kernel_rfl) (by decide)
def c4K:List Sn:=[([],[(fno (fno (fbi 5 faP (fno faP))))]),([(fno (fbi 5 faP (fno faP)))],[(fno (fno (fbi 5 faP (fno faP))))]),([(fno (fbi 5 faP (fno faP)))],[(fbi 5 faP (fno faP))]),([(fno (fbi 5 faP (fno faP)))],[faP]),([(fno (fbi 5 faP (fno faP)))],[(fno faP)]),([faP,(fno (fbi 5 faP (fno faP)))],[(fno faP)]),([faP,(fno (fbi 5 faP (fno faP)))],[(fbi 5 faP (fno faP))]),([faP,(fno (fbi 5 faP (fno faP)))],[faP])]
theorem c4:Cert true c4K [false,false,false,false,false,false,false,true] [[[1]],[[2],[1]],[[2],[3],[4]],[[2]],[[2],[5]],[[6],[5]],[[6],[7],[5]],[]] [7,6,5,6,4,3,2,1]:=yV4 (by kernel_rfl) (by kernel_rfl) (by kernel_rfl) (by kernel_rfl) (by kernel_rfl) (by kernel_rfl) (by decide)
def c5K:List Sn:=[([(fbi 6 faP (fbi 6 faP faQ))],[(fbi 6 faP faQ)]),([(fbi 6 faP (fbi 6 faP faQ))],[faP,(fbi 6 faP faQ)]),([(fbi 6 faP faQ),(fbi 6 faP (fbi 6 faP faQ))],[(fbi 6 faP faQ)]),([faP,(fbi 6 faP (fbi 6 faP faQ))],[faQ,(fbi 6 faP faQ)]),([(fbi 6 faP faQ),(fbi 6 faP (fbi 6 faP faQ))],[faP,(fbi 6 faP faQ)]),([faP,(fbi 6 faP (fbi 6 faP faQ))],[faP,faQ,(fbi 6 faP faQ)]),([faP,(fbi 6 faP faQ),(fbi 6 faP (fbi 6 faP faQ))],[faQ,(fbi 6 faP faQ)])]
theorem c5:Cert false c5K [false,false,true,false,true,true,true] [[[1,2],[3]],[[1,4],[5]],[],[[5,6],[3]],[],[],[]] [3,2,1,2,1,1,1]:=yV4 (by kernel_rfl) (by kernel_rfl) (by kernel_rfl) (by kernel_rfl) (by kernel_rfl) (by kernel_rfl) (by decide)
def c6K:List Sn:=[([(fbi 6 faP (fbi 6 faP faQ))],[(fbi 6 faP faQ)]),([(fbi 6 faP (fbi 6 faP faQ))],[faP]),([(fbi 6 faP faQ),(fbi 6 faP (fbi 6 faP faQ))],[(fbi 6 faP faQ)]),([faP,(fbi 6 faP (fbi 6 faP faQ))],[faQ]),([(fbi 6 faP faQ),(fbi 6 faP (fbi 6 faP faQ))],[faP]),([faP,(fbi 6 faP (fbi 6 faP faQ))],[faP]),([faP,(fbi 6 faP faQ),(fbi 6 faP (fbi 6 faP faQ))],[faQ]),([faQ,(fbi 6 faP faQ),(fbi 6 faP (fbi 6 faP faQ))],[faP]),([faP,(fbi 6 faP faQ),(fbi 6 faP (fbi 6 faP faQ))],[faP]),([faP,faQ,(fbi 6 faP faQ),(fbi 6 faP (fbi 6 faP faQ))],[faQ])]
theorem c6:Cert true c6K [false,false,true,false,false,true,false,false,true,true] [[[1,2],[3]],[[1,4]],[],[[5,6]],[[4,7],[4,4]],[],[[8,9],[8,6]],[[7,7],[7,7]],[],[]] [4,0,1,3,0,1,2,0,1,1]:=yV4 (by kernel_rfl) (by kernel_rfl) (by kernel_rfl) (by kernel_rfl) (by kernel_rfl) (by kernel_rfl) (by decide)
theorem yWy {j:Bool}{K:List Sn}{cl:List Bool}{lk:List (List (List Nat))}{hs:List Nat}(h:Cert j K cl lk hs){s:Sn}(h0:K[0]?=some (nfC s)):hF j s=at0 hs 0/\ReachOk j (nf s) K:=by
 rw[<- vWi,nf_C];exact⟨h.hF h0,h.reach h0⟩
theorem aw2:hF false ([],[fbi 5 faP (fno faP)])=3/\ReachOk false (nf ([],[fbi 5 faP (fno faP)])) c2K:=yWy c2 (by kernel_rfl)
theorem aw3:hF true ([],[fbi 5 faP (fno faP)])=0/\ReachOk true (nf ([],[fbi 5 faP (fno faP)])) c3K:=yWy c3 (by kernel_rfl)
noncomputable def mvD (j:Bool)(s:Sn):List (Nat×Fm×List Sn):=(s.1.flatMap λf=>(addF j f false).map λt=>(t.1,f,t.2.map (pmC j s)))++s.2.flatMap λf=>(addF j f true).map λt=>(t.1,f,t.2.map (pmC j s))
theorem wXn (j:Bool)(s:Sn):mvF j s=mvD j s:=by
 have h:zQ6 j s=pmC j s:=funext λp=>nf_C _;unfold mvF yW7 mvD;rw[h]
abbrev orP:Fm:=fbi 5 faP (fno faP)
theorem zUz {l:List Fm}{f:Fm}(h:(decide (l.length<=64)&&l.all (fmB 2)&&fmB 2 f)=true):yQm 2 ⟨l,[f]⟩=true:=by
 simp only[bAt] at h;obtain⟨⟨h1,h2⟩,A⟩:=h;have D:f.right=true:=by unfold fmB at A;exact (bAt _ _▸A).1
 unfold yQm;have E:eqF f f=true:=by unfold eqF yU0;rw[D,dEt rfl];simp[eqB]
 simp only[h1,h2,A,zZo,List.all_cons,List.all_nil,E,Bool.and_true,Bool.or_true];rfl
theorem awv2:yQm 1 ⟨[],[orP]⟩=true:=by kernel_rfl
theorem awv3:yQm 2 ⟨[],[orP]⟩=true:=zUz (by kernel_rfl)
theorem ReachOk.no' {j:Bool}{s0:Sn}{K:List Sn}(h:ReachOk j s0 K){e:Nat}(A:zZw j s0 e):False:=h.no .refl A
theorem ReachOk.top {j:Bool}{s0:Sn}{K:List Sn}(h:ReachOk j s0 K)(hc:¬ ClF s0.1 s0.2):¬ zGt j s0:=h.short s0 ((h.mem s0).2 .refl) hc
end Go.Proofs.Tryz
namespace Go.Proofs.Tryz
open Go Go.Iv
set_option maxRecDepth 4000
variable (gl:Nat->Option IV)
abbrev sI (s:Sq):IV:=.agg [.sl (tagF s.l) (fmsI s.l),.sl (tagF s.r) (fmsI s.r)]
theorem wZz (s:Sq)(h:(zWt s.l&&zWt s.r)=true):IsSq s (sI s):=by
 rw[bAt] at h;exact⟨_,_,_,_,rfl,xXs _,zUb _ h.1,xXs _,zUb _ h.2⟩
theorem yUc (G:Gl gl)(T:Gt gl)(ca:Nat)(s:Sq)(hc:ca=1\/ca=2)(hv:yQm ca s=true){n:Nat}{K:List Sn}(hK:hF (calJ ca) (s.l,s.r)=n/\ReachOk (calJ ca) (nf (s.l,s.r)) K)(x:IV)(D:IsSq s x)(hs:yXq s)(st:ISt) :
  ICall prog gl 15 [.raw (.int .u8 (ca:Int)),x] st (λr st'=>r=.tup [.raw (.int .i64 (n:Int)),.raw (.int .i64 0)]/\st'=st) :=
 (xWv gl G T ca s x D hs st).mono λr st' ⟨h1,h2⟩=>by
  rcases h2 with⟨e,E,_⟩|⟨_,_,_,A⟩
  ·rcases E.1 with⟨h,_⟩|⟨_,h,_⟩|⟨_,_,h⟩
   ·exact (h hc).elim
   ·rw[hv] at h;cases h
   ·exact (hK.2.no' h).elim
  ·rw[hK.1] at A;exact⟨A,h1⟩
theorem vZk (G:Gl gl)(T:Gt gl)(ca:Nat)(s:Sq)(hc:ca=1\/ca=2)(hv:yQm ca s=true)(D:¬ zGt (calJ ca) (nf (s.l,s.r)))(x:IV)(A:IsSq s x)(hs:yXq s)(st:ISt) :
  ICall prog gl 97 [.raw (.int .u8 (ca:Int)),x] st (λr st'=>(∃t ys,okEs t 6/\AllR yK8 (mvF (calJ ca) (nf (s.l,s.r))) ys/\r=.tup [.sl t ys,.raw (.int .i64 0)])/\st'=st) :=
 (wXp gl G T ca s x A hs st).mono λr st' ⟨h1,h2⟩=>by
  rcases h2 with⟨h,_⟩|⟨_,h,_⟩|⟨_,_,⟨h,_⟩|⟨_,E⟩⟩
  ·exact (h hc).elim
  ·rw[hv] at h;cases h
  ·exact (D h).elim
  ·exact⟨E,h1⟩
end Go.Proofs.Tryz
namespace Go.Proofs.Tryz
open Go Go.Iv
theorem yY9 {ca:Nat}{s:Sq}(h:yQm ca s=true):∀f∈s.l++s.r,fmB ca f=true:=by
 unfold yQm at h;simp only[bAt,dTe,List.all_eq_true] at h;obtain⟨⟨⟨⟨⟨_,hl⟩,G⟩,D⟩,A⟩,_⟩:=h;exact λf E=>(List.mem_append.1 E).elim (D f) (A f)
theorem wZs (l:List Fm):(setF l).Nodup:=by
 have:=(zJu l).1;exact this.imp λ{a b} h=>by rintro rfl;rw[(yXp a a).2 rfl] at h;omega
end Go.Proofs.Tryz
namespace Go.Proofs.Tryz
open Go Go.Iv
set_option maxRecDepth 4000
variable (gl:Nat->Option IV)
theorem wQk (l m:List Sq)(t t':Tag)(xs ys:List IV)(ht:okEs t 2)(af:okEs t' 2)(U:IsSqs l xs)(hy:IsSqs m ys)(st:ISt) :
  ICall prog gl 22 [.sl t xs,.sl t' ys] st (λr st'=>r=.raw (.bool (eqB l m))/\st'=st):=by
 refine iI func22 ?_;simp only[go_sem,zE,reduceCtorEq,U.len,hy.len];intro am al;by_cases A:l.length=m.length
 case neg =>
  simp only[go_sem,show decide (((l.length:Nat):Int)=m.length)=false from dEf (by omega)];exact yQ0 ⟨by rw[yQo.2 λh=>A (by rw[h])],rfl⟩
 simp only[go_sem,show decide (((l.length:Nat):Int)=m.length)=true from dEt (by omega)];refine LoopC.ctr l.length (λk fr st' ds=>l.take k=m.take k/\fr 0=.iv (.sl t xs)/\fr 1=.iv (.sl t' ys)/\fr 5=.iv (.raw (.int .i64 k))/\st'=st/\ds=[]) ?_ ?_ ?_
 ·simp only[go_sem,zE,reduceCtorEq];simp
 ·rintro k fr G _ D ⟨hn,f0,f1,f5,rfl,rfl⟩;obtain⟨a,ha⟩:=yQ1 D;obtain⟨b,hb⟩:=yQ1 (l:=m) (k:=k) (by omega);obtain⟨x,ah,O⟩:=U.get ha;obtain⟨y,ag,J⟩:=hy.get hb;have E:=zY5 gl a b x y O J G;obtain⟨_,_,_,_,rfl⟩:=IsSq.two O;obtain⟨_,_,_,_,rfl⟩:=IsSq.two J;simp only[go_sem,zE,zB,zA,reduceCtorEq,f0,f1,f5,U.len,lt_i D,yQ3 ht,yQ3 af,iNn,ah,ag,fits];intros;refine E.mono ?_;rintro _ _ ⟨rfl,rfl⟩;cases hq:eqB a b
  ·simp only[go_sem];refine yQ0 ⟨?_,rfl⟩;rw[yQo.2 λh=>?_];subst h;rw[ha] at hb;cases hb;exact yQo.1 hq rfl
  ·simp only[go_sem,zE,reduceCtorEq,f0,f1,f5,yQc D (show l.length<=281474976710656 by omega)];rw[yQ6 ha,yQ6 hb,hn,yZ0.1 hq]
 ·rintro fr G _ ⟨hn,f0,f1,f5,rfl,rfl⟩;rw[lTl,show m.take l.length=m by rw[A,lTl]] at hn;simp only[go_sem,zE,reduceCtorEq,f0,f5,U.len,yQl (nLi _)];intros;exact yQ0 ⟨by rw[yZ0.2 hn],rfl⟩
set_option maxRecDepth 8000
theorem wZe:∀ {l:List Sn}{A:List IV},AllR (λp y=>IsSq ⟨p.1,p.2⟩ y) l A->IsSqs (l.map λp=>⟨p.1,p.2⟩) A
 | [],A,h=>by
  have:=h.1;obtain rfl:A=[]:=List.eq_nil_of_length_eq_zero this;simp[IsSqs]
 | p::l,A,h=>by
  obtain⟨x,h0,D⟩:=h.2 0 p rfl;cases A with
  | nil=>cases h0
  | cons y ys =>
   obtain rfl:y=x:=by simpa using h0
   exact⟨y,ys,rfl,D,wZe ⟨by have:=h.1;simpa using this,λi a E=>h.2 (i+1) a E⟩⟩
theorem yJy {s:Sq}(h:(s.l.all (λf=>decide (f.size<=1000000))&&s.r.all (λf=>decide (f.size<=1000000)))=true):yXq s:=by
 simp only[bAt,List.all_eq_true,dTe] at h;exact h
theorem vWh (x y z:Operand):yV1 3 [(0,x),(1,y),(2,z)]=true:=rfl
def kXf (r:List Nat)(x:IV):Prop:=∃t,x=.sl t (yQj r)/\okEs t 1
def vGy (S:List (List Nat)):Prop:=S.length<=3/\∀r∈S,r.length<=3/\∀u∈r,u<S.length
section
variable (S:List (List Nat))(hS:vGy S)(tS:Tag)(xS:List IV)(htS:okEs tS 1)(hxS:AllR kXf S xS)(ta tm:Tag)(hta:okEs ta 1)(htm:okEs tm 1)(l:List ByteArray)(hnd:l.Nodup)(hl:l.length<=100)(ms:List Nat)(hml:ms.length=S.length)(hms:∀m∈ms,m<=1000000)
include hS htS hxS hta htm hnd hl hml hms
end
end Go.Proofs.Tryz
namespace Go.Proofs.Tryz
open Go Go.Iv
theorem uYg {a:Fm}(ha:PF a):∀ {b:Fm},PF b->dbF [] a=dbF [] b->a=b:=by
 have D:∀o,1<=o->o<=7->isQ o=false:=λo h1 h2=>by
  rcases (show o=1\/o=2\/o=3\/o=4\/o=5\/o=6\/o=7 by omega) with rfl|rfl|rfl|rfl|rfl|rfl|rfl<;>rfl
 have h1:=D 1 (by decide) (by decide);have h2:=D 2 (by decide) (by decide);have h3:=D 3 (by decide) (by decide)
 induction ha with
 | atom n =>
  intro b E h;cases E<;>simp_all [dbF,dbFs,dbs]
  all_goals omega
 | fls =>
  intro b E h;cases E<;>simp_all [dbF,dbFs,dbs]
  all_goals omega
 | neg _ ih =>
  intro b E h;cases E with
  | neg A =>
   simp only[dbF,dbFs,h3,bFt,if_false,NlF.mk.injEq,List.cons.injEq,and_true,true_and] at h;rw[ih A h]
  | _=>simp_all [dbF,dbFs,dbs]<;>omega
 | @bin o a b h4 h7 _ _ J G =>
  intro c hc h;cases hc with
  | @bin o' a' b' ag U O A =>
   have e1:=D o (by omega) h7;have e2:=D o' (by omega) U;simp only[dbF,dbFs,e1,e2,bFt,if_false,NlF.mk.injEq,List.cons.injEq,and_true,true_and] at h;obtain⟨rfl,h5,h6⟩:=h;rw[J O h5,G A h6]
  | _=>simp_all [dbF,dbFs,dbs]<;>omega
theorem xGn {s:Sq}(h:yQm 2 s=true):∀f∈s.r,∀g∈s.r,f=g:=by
 have D:∀f∈s.r,PF f:=λf A=>zW0 (by decide) (yY9 h f (List.mem_append_right _ A));unfold yQm at h;simp only[bAt] at h;have h1:zZo s.r=true:=by simpa using h.2
 cases E:s.r with
 | nil=>intro f A;cases A
 | cons a l =>
  rw[E] at h1 D;have key:∀f∈a::l,f=a:=λf A=>by
   have:=List.all_eq_true.1 h1 f A;unfold eqF yU0 at this;simp only[bAt,dTe,yZ0] at this;exact uYg (D f A) (D a (.head _)) this.2.2
  exact λf A g G=>(key f A).trans (key g G).symm
theorem yYc:∀ {l:List Tr}{a:Tr},a∈l->a.steps<=yQr l
 | b::l,a,h=>by
  simp only[yQr];rcases List.mem_cons.1 h with rfl|h
  ·omega
  ·have:=yYc h;omega
theorem xYz {a b:Fm}:eqF a b=true↔a.op=b.op/\a.right=true/\b.right=true/\dbF [] a=dbF [] b:=by
 unfold eqF yU0;simp only[bAt,dTe,yZ0,and_assoc]
theorem wYz {a:Fm}(h:a.right=true):eqF a a=true:=xYz.2 ⟨rfl,h,h,rfl⟩
theorem wJt {l:List Fm}{f:Fm}:hasF l f=true↔∃g∈l,eqF f g=true:=by simp[hasF]
section
variable {ca rule:Nat}{s:Sq}{f:Fm}{u:Tm}{n:ByteArray}{sub:List Tr}(h:(yXz ca (.mk rule s f u n sub)).2=0)(h1:s.l.length<64)(h2:s.r.length<64)
include h h1 h2
end
section
variable {ca rule:Nat}{s:Sq}{f:Fm}{u:Tm}{n:ByteArray}{sub:List Tr}(h:(yXz ca (.mk rule s f u n sub)).2=0)
include h
end
theorem xYs {ca:Nat}{f:Fm}:fmB ca f=true↔f.ok=true/\f.size<=400/\f.deep<=40/\opsB ca f=true:=by
 unfold fmB Fm.right;grind
mutual
theorem wKt {ca:Nat}(hc:ca≠3)(e:List ByteArray):∀f g:Fm,opsB ca f=true->opsB ca g=true->dbF e f=dbF e g->f=g
 | .mk o n us sub,.mk o' U G A,E,D,h=>by
  simp only[opsB,bAt,dTe,if_neg hc,dEf hc,Bool.false_or,List.isEmpty_iff] at E D;obtain⟨⟨⟨h1,h2⟩,rfl⟩,O⟩:=E;obtain⟨⟨⟨k1,k2⟩,rfl⟩,J⟩:=D;have q:isQ o=false:=by
   have:∀o,o<=7->isQ o=false:=by decide
   exact this o h2
  have q':isQ o'=false:=by
   have:∀o,o<=7->isQ o=false:=by decide
   grind
  simp only[dbF,q,q',bFt,if_false,NlF.mk.injEq] at h;obtain⟨rfl,rfl,_,h⟩:=h;rw[xG7 hc e sub A O J h]
theorem xG7 {ca:Nat}(hc:ca≠3)(e:List ByteArray):∀l m:List Fm,yKw ca l=true->yKw ca m=true->dbFs e l=dbFs e m->l=m
 | [],[],_,_,_=>rfl
 | [],b::m,_,_,h=>by simp[dbFs] at h
 | a::l,[],_,_,h=>by simp[dbFs] at h
 | a::l,b::m,hl,A,h=>by
  simp only[yKw,bAt] at hl A;simp only[dbFs,List.cons.injEq] at h;rw[wKt hc e a b hl.1 A.1 h.1,xG7 hc e l m hl.2 A.2 h.2]
end
theorem wKl {ca:Nat}(hc:ca≠3){a b:Fm}(A:fmB ca a=true)(D:fmB ca b=true):eqF a b=true↔a=b:=by
 have h1:=(xYs.1 A).2.2.2;have h2:=(xYs.1 D).2.2.2;constructor
 ·intro h;exact wKt hc [] a b h1 h2 (xYz.1 h).2.2.2
 ·rintro rfl;refine wYz ?_;unfold fmB at A;grind
section
variable (nm:ByteArray)(g:Fm)
end
section
variable {nm:ByteArray}{g:Fm}{ca:Nat}
end
section
variable {nm:ByteArray}{g:Fm}{ca:Nat}
end
abbrev trZ0:Tr:=.mk 0 ⟨[],[]⟩ fm0 tmZ noN []
noncomputable def mstS (j:Bool)(ps:List Sn):Nat:=if ps.any (λp=>decide (hF j p=0))=true then 0 else ps.foldl (λm p=>max m (hF j p)) 0
noncomputable def kX4 (j:Bool)(s:Sn):Option (Nat×Fm×List Sn):=(mvF j s).find? λm=>decide (mstS j m.2.2+1=hF j s)
open Classical in
noncomputable def axF (s:Sn):Option (Nat×Fm):=match s.1.find? (λf=>decide (f∈s.2)) with
 | some f=>some (1,f)
 | none=>if s.1.any zZj=true then some (2,.mk 2 noN [] []) else none
noncomputable def tF (j:Bool):Nat->Sn->Tr
 | 0,_=>trZ0
 | n+1,s=>match axF s with
  | some (r,f)=>.mk r (sqOf s) f tmZ noN []
  | none=>match kX4 j s with
   | some m=>.mk m.1 (sqOf s) m.2.1 tmZ noN (m.2.2.map (tF j n))
   | none=>trZ0
theorem vXu {s:Sn}{r:Nat}{f:Fm}(h:axF s=some (r,f)):(r=1/\f∈s.1/\f∈s.2)\/(r=2/\f=.mk 2 noN [] []/\∃g∈s.1,zZj g=true):=by
 unfold axF at h;split at h
 ·rename_i E A;cases h;exact .inl ⟨rfl,List.mem_of_find?_eq_some A,by simpa using List.find?_some A⟩
 ·split at h
  ·rename_i D;cases h;obtain⟨g,h1,h2⟩:=List.any_eq_true.1 D;exact .inr ⟨rfl,rfl,g,h1,h2⟩
  ·cases h
theorem xQ1 {ca:Nat}(hc:ca=1\/ca=2){s:Sn}(h1:s.1.length<=64)(h2:s.2.length<=64)(U:∀f∈s.1,fmB ca f=true)(A:∀f∈s.2,fmB ca f=true)(O:ca=2->s.2.length<=1):yQm ca (sqOf s)=true:=by
 have E:yXy ca=true:=by unfold yXy;rcases hc with rfl|rfl<;>rfl
 have J:(decide (ca≠2) || zZo s.2)=true:=by
  rcases hc with rfl|rfl
  ·rfl
  ·have:=O rfl;cases hs:s.2 with
   | nil=>rfl
   | cons f l =>
    rw[hs] at this A;obtain rfl:l=[]:=List.eq_nil_of_length_eq_zero (by simpa using this);have D:f.right=true:=by have:=A f (.head _);unfold fmB at this;exact (bAt _ _▸this).1
    have G:eqF f f=true:=by unfold eqF yU0;rw[D,dEt rfl];simp[eqB]
    simp[zZo,G]
 unfold yQm sqOf;simp only[E,dEt h1,dEt h2,List.all_eq_true.2 U,List.all_eq_true.2 A,J,Bool.and_self]
theorem yKp {l:List Fm}:(setF l).length<=l.length:=zKd (wZs l) λf A=>yZg.1 A
theorem vXy {f:Fm}{r:Bool}{t:Nat×List Sn}(h:t∈addF true f r):∀p∈t.2,p.2.length<=1:=by
 unfold addF at h;split at h<;>simp at h
 all_goals first
  | (subst h;simp;done)
  | (rcases h with rfl|rfl<;>simp;done)
theorem zK2 {ca:Nat}(hc:ca=1\/ca=2){s0:Sq}(hv:yQm ca s0=true){K:List Sn}(hK:ReachOk (calJ ca) (nf (s0.l,s0.r)) K){s:Sn}(h:Rch (calJ ca) (nf (s0.l,s0.r)) s) :
  yQm ca (sqOf s)=true/\nf s=s/\(ca=2->s.2.length<=1)/\(∀f∈s.1,fmB ca f=true)/\(∀f∈s.2,fmB ca f=true):=by
 have ah:ca≠3:=by omega
 induction h with
 | refl =>
  have O:=yY9 hv;have h1:∀f∈setF s0.l,fmB ca f=true:=λf A=>O f (List.mem_append_left _ (yZg.1 A));have h2:∀f∈setF s0.r,fmB ca f=true:=λf A=>O f (List.mem_append_right _ (yZg.1 A));have G:s0.l.length<=64/\s0.r.length<=64:=by
   unfold yQm at hv;simp only[bAt,dTe] at hv;exact⟨hv.1.1.1.1.2,hv.1.1.1.2⟩
  have h5:ca=2->(setF s0.r).length<=1:=λh=>by
   subst h;have hu:=xGn hv;cases hs:setF s0.r with
   | nil=>exact Nat.zero_le _
   | cons f l =>
    have hnd:=wZs s0.r;rw[hs] at hnd;have:∀g∈l,g=f:=λg E=>hu g (yZg.1 (by rw[hs];exact .tail _ E)) f (yZg.1 (by rw[hs];exact .head _));cases l with
    | nil=>exact Nat.le_refl _
    | cons g l=>exact ((List.nodup_cons.1 hnd).1 (by rw[this g (.head _)];exact .head _)).elim
  exact⟨xQ1 hc (Nat.le_trans yKp G.1) (Nat.le_trans yKp G.2) h1 h2 h5,vVv _,h5,h1,h2⟩
 | @step s1 h1 ag m hm p ab ih =>
  obtain⟨_,_,i1,i2,i3⟩:=ih;have ac:=hK.short s1 ((hK.mem s1).2 h1) ag;have key:∀(r:Bool) (f:Fm),f∈(if r=true then s1.2 else s1.1)->m∈yW7 (calJ ca) s1 r f->yQm ca (sqOf p)=true/\nf p=p/\(ca=2->p.2.length<=1)/\(∀f∈p.1,fmB ca f=true)/\(∀f∈p.2,fmB ca f=true):=λr f A ae=>by
   obtain⟨t,ht,rfl⟩:=List.mem_map.1 ae;obtain⟨q,hq,rfl⟩:=List.mem_map.1 ab;have af:fmB ca f=true:=by cases r<;>simp at A<;>first|exact i2 f A|exact i3 f A
   obtain⟨a1,a2⟩:=wKa ah af ht q hq;have D:¬ tooL (calJ ca) s1 q:=λh=>ac ⟨f,r,A,t,ht,q,hq,h⟩;unfold tooL at D;have e1:(s1.1++q.1).length<=64:=by rw[lLa];omega
   have e2:(rgt (calJ ca) s1.2 q.2).length<=64:=by
    unfold rgt;by_cases U:calJ ca=true/\q.2≠[]
    ·rw[if_pos U];rw[if_pos U] at D;omega
    ·rw[if_neg U,lLa];rw[if_neg U] at D;omega
   have g1:∀f∈setF (s1.1++q.1),fmB ca f=true:=λg E=>(List.mem_append.1 (yZg.1 E)).elim (i2 g) (a1 g);have g2:∀f∈setF (rgt (calJ ca) s1.2 q.2),fmB ca f=true:=λg E=>by
    have E:=yZg.1 E;unfold rgt at E;split at E
    ·exact a2 g E
    ·exact (List.mem_append.1 E).elim (i3 g) (a2 g)
   have g3:ca=2->(setF (rgt (calJ ca) s1.2 q.2)).length<=1:=λh=>by
    refine Nat.le_trans yKp ?_;subst h;unfold rgt;by_cases J:q.2=[]
    ·rw[if_neg λh=>h.2 J,J,List.append_nil];exact i1 rfl
    ·rw[if_pos ⟨rfl,J⟩];exact vXy ht q hq
   exact⟨xQ1 hc (s:=zQ6 (calJ ca) s1 q) (Nat.le_trans yKp e1) (Nat.le_trans yKp e2) g1 g2 g3,vVv _,g3,g1,g2⟩
  rcases List.mem_append.1 hm with hm|hm
  ·obtain⟨f,A,hm⟩:=List.mem_flatMap.1 hm;exact key false f A hm
  ·obtain⟨f,A,hm⟩:=List.mem_flatMap.1 hm;exact key true f A hm
noncomputable def zW4:Tr->Bool
 | .mk r _ m _ _ sub=>decide (r=0)&&sub.isEmpty&&decide (yZa m fm0=0)
def xJn:Tr->Bool
 | .mk r _ _ _ _ sub=>decide (r=0)&&sub.isEmpty
abbrev goalT (s:Sq):Tr:=.mk 0 s fm0 tmZ noN []
def shal:Tr->Tr
 | .mk r s m _ _ sub=>.mk r s m tmZ noN (sub.map λp=>goalT p.sq)
noncomputable def yKu (ca:Nat)(t:Tr):Bool:=if zW4 t=true then yQm ca t.sq else decide ((yXz ca (shal t)).2=0) || decide (0<(yXz ca (shal t)).1.length)
noncomputable def badN (ca:Nat)(t:Tr):Nat:=if yKu ca t=true then 0 else 270
noncomputable def hCk (ca:Nat)(t:Tr):List Nat×Nat:=if ca=1\/ca=2 then (if 300<t.steps then ([],5) else yQz (badN ca) (t.walk [])) else ([],2)
def yZu (t:Tr):List (List Nat):=((t.walk []).filter λq=>xJn q.2).map (·.1)
def atT:Tr->List Nat->Tr
 | t,[]=>t
 | .mk _ _ _ _ _ sub,i::p=>match sub[i]? with
  | some s=>atT s p
  | none=>trZ0
end Go.Proofs.Tryz
namespace Go.Iv
open Go
theorem V.newer {M B:Nat}{L L':Nat->Nat}{w:World}{r:Value}{t:Tag}{G:List IV}(hL:∀b,M<=b->L' b=L b)(hB:B<=M)(ht:t.cap=.nil\/t.fresh=true)(hx:∀x∈G,∃v,x=.raw v)(h:V M L w r (.sl t G)):V B L' w r (.sl t G):=by
 cases h with
 | sl a cap t G T vs D O ac hs U E A ae h =>
  have J:∀(i:Nat) (r:Value) (c:IV),vs[i]?=some r->(G.flatMap IV.cells)[i]?=some c->V B L' w r c:=λi r c hr hc=>by
   have ai:=lMg hc;obtain⟨x,af,ab⟩:=List.mem_flatMap.1 ai;obtain⟨v,rfl⟩:=hx x af;simp only[IV.cells,List.mem_singleton] at ab;subst ab;cases h i r _ hr hc with
   | raw _ hv=>exact .raw _ hv
  rcases ht with ht|ht
  ·have ag:G=[]:=by
    rw[ht] at D;exact List.eq_nil_of_length_eq_zero D.2.1
   exact .sl a cap t G T vs D O ac hs U E (λhf ad ha=>by have:=A hf ad ha;exact⟨by omega,this.2⟩) (λaa=>absurd ag aa) J
  ·refine .sl a cap t G T vs D O ac hs U E (λhf ad ha=>by have:=A hf ad ha;exact⟨by omega,this.2⟩) (λaa=>?_) J;grind
def Newly (r:IV):Prop:=∀(M B:Nat) (L L':Nat->Nat) (w:World) (v:Value),(∀b,M<=b->L' b=L b)->B<=M->V M L w v r->V B L' w v r
theorem Newly.sl {t:Tag}{A:List IV}(ht:t.cap=.nil\/t.fresh=true)(D:∀x∈A,∃v,x=.raw v):Newly (.sl t A):=λ_ _ _ _ _ _ E G h=>V.newer E G ht D h
section
variable {P:Program}{gl:Nat->Option IV}{f:FuncId}{args args':List IV}{st:ISt}
theorem ICall.lentN {K:IV->Prop}(hf:∀b o,st b=some o->(∃cs,o=.box cs)\/vG6 o)(ah:∀g x,gl g=some x->age x=x)(hl:Lents st args args')(h:ICall P gl f (ages args') (zQb st) (λr st'=>st'=zQb st/\Newly r/\K r)) :
  ICall P gl f args st (λr st'=>st'=st/\K r):=by
 intro B X rs O hst hv;subst hst;have G:=O.lend;have ai:Good ⟨P,gl,X.w.heap.size⟩ X.lend:=⟨λb o A=>(G.ok b o A).flat (by
   have J:zQb X.st b=some o:=A;rcases hf b o (zKe X.st b o J) with⟨cs,rfl⟩|aj
   ·rw[yYn (zKe X.st b _ J)] at J;cases J
   ·exact aj) rfl rfl,λg x hx=>by
   have h1:=ah g x hx;have h2:=(G.gl g x hx).aged (B':=X.w.heap.size);simp only[age,h1] at h2;exact h2,Nat.le_refl _,G.Lnew,G.gsh,G.dr⟩
 have ag:Cx.vl ⟨P,gl,X.w.heap.size⟩ X.lend rs (ages args'):=VL.aged (hl.v O hv);refine (h X.w.heap.size X.lend rs ai rfl ag).mono ?_;rintro e w' ⟨v,rfl,X',x,rfl,h2,h3,h4,h5,h6,h7⟩;have ae:∀ {b o},X.st b=some o->b<X.w.heap.size:=λA=>O.lt A
 let Y:WS:={ w:=X'.w,L:=λb=>match X.st b with|some (.box _)=>0|_=>X'.L b,st:=X.st,d:=X'.d }
 have al:∀ {b cs},X.st b=some (.box cs)->Y.L b=0:=λA=>by simp only[Y,A]
 have U:∀ {b},(∀cs,X.st b≠some (.box cs))->Y.L b=X'.L b:=λ{b} A=>by
  grind
 have af:∀ {b cs},X.st b=some (.box cs)->X'.w.heap[b]?=X.w.heap[b]?:=λ{b cs} A=>(h3.keep b (ae A) (yYn A)).1;have he:Ext X Y:=by
  refine⟨h3.os,h3.tape,h3.output,h3.size,λb=>?_,λb i hi=>?_,λb A hs=>?_,λb _ hs=>hs,h3.shape,h3.d⟩
  ·by_cases A:∃cs,X.st b=some (.box cs)
   ·obtain⟨cs,A⟩:=A;rw[(O.ok b _ A).1];exact Nat.zero_le _
   ·rw[U λcs hc=>A ⟨cs,hc⟩];exact Nat.le_trans (O.lend_ext.lmono b) (h3.lmono b)
  ·exact h3.cells b i (Nat.lt_of_lt_of_le hi (O.lend_ext.lmono b))
  ·have E:∀cs,X.st b≠some (.box cs):=λcs hc=>by rw[hs] at hc;cases hc
   obtain⟨k1,k2⟩:=h3.keep b A ((yGd E).trans hs);exact⟨k1,by rw[U E,k2,yYq E]⟩
 have ac:∀b,X.w.heap.size<=b->Y.L b=X'.L b:=λb A=>U λcs hc=>by have:=ae hc;omega
 have am:V B Y.L Y.w v x:=h6 _ _ _ _ _ _ ac O.B h4;refine⟨v,rfl,Y,_,rfl,⟨λb o A=>?_,λg x ab=>he.v (O.gl g x ab),Nat.le_trans O.B h3.size,λb A=>?_,λg x ab=>?_,h2.dr⟩,he,am,rfl,h7⟩
 ·by_cases D:∃cs,X.st b=some (.box cs)
  ·obtain⟨cs,D⟩:=D;have J:X.st b=some o:=A;rw[D] at J;cases J;exact (O.ok b _ D).mono (af D) (by rw[al D,(O.ok b _ D).1]) (λ_ _ hv=>he.vl hv)
  ·have E:∀cs,X.st b≠some (.box cs):=λcs hc=>D ⟨cs,hc⟩;have h1:X'.st b=some o:=by rw[h5];exact (yGd E).trans A
   exact (h2.ok b o h1).flat ((hf b o A).resolve_left λ⟨cs,hc⟩=>D ⟨cs,A.trans (congrArg some hc)⟩) rfl (U E)
 ·have E:∀cs,X.st b≠some (.box cs):=λcs hc=>by
   grind
  rw[U E];exact h2.Lnew b A
 ·exact h2.gsh g x ab
end
theorem xZl {l:Array Bool}{i j:Nat}(A:i<l.size):(l.setIfInBounds i true).getD j false=if i=j then true else l.getD j false:=by
 by_cases h:i=j
 ·subst h;rw[if_pos rfl];simp[A]
 ·rw[if_neg h,getD_set_ne false h]
theorem yZ5 (c:Cf)(ops:List Oper)(dst:Option Nat)(op:Op)(D:TypeId)(pos:String)(A:Array Edge)(K:Kt)(ad:Ad)(fr:Fr)(st:ISt)(ds:List Dfd):yY3 c ops ⟨dst,op,D,pos,A,none⟩ K ad fr st ds=vcOp c dst op K ad fr st ds:=rfl
theorem yXw {ad:Ad}(h:∀s,ad s=none)(d:Nat):∀s,ad.put d none s=none:=λs=>by
 rw[Ad.put_apply,h s];split<;>rfl
theorem zK1 {ops:Array Oper}{A:Array Bool}(h:((List.range ops.size).all λi=>(opAt ops i).after.toList.all λe=>!Region.binds .any e || decide (e.on<i))=true)(hz:A.size=ops.size)(U:Region.ready .any ops A=[]):∀i,i<ops.size->A.getD i false=true:=by
 intro i
 induction i using Nat.strongRecOn with
 | _ i O =>
  intro D;refine Classical.byContradiction λhc=>?_;have h4:A.getD i true=false:=by
   rw[Array.getD_eq_getD_getElem?,Array.getElem?_eq_getElem (by omega)] at hc ⊢;simpa using hc
  have:i∈Region.ready .any ops A:=mem_ready.2 ⟨h4,_,yVd D,λe E hb=>by
   have J:=List.all_eq_true.1 (List.all_eq_true.1 h i (List.mem_range.2 D)) e (by simpa using E);rw[hb] at J;have G:e.on<i:=by simpa using J
   exact O e.on G (Nat.lt_trans G D)⟩
  rw[U] at this;cases this
end Go.Iv
namespace Go.Proofs.Tryz
open Go Go.Iv
set_option maxRecDepth 4000
variable (gl:Nat->Option IV)
theorem xJk {p:List Nat}{k a:Nat}(h:p[k]?=some a):(plI p)[k]?=some (.raw (.int .i64 (a:Int))):=by simp[plI,List.getElem?_map,h]
theorem xUa (p q:List Nat):plI (p++q)=plI p++plI q:=by simp[plI]
def sumN:List Nat->Nat
 | []=>0
 | a::l=>a+sumN l
theorem yU5:∀l m:List Nat,sumN (l++m)=sumN l+sumN m
 | [],m=>by simp[sumN]
 | a::l,m=>by simp only[List.cons_append,sumN,yU5 l m];omega
theorem wZb (l:List Nat)(k:Nat):sumN (l.take k)<=sumN l:=by
 conv=>rhs;rw[<- List.take_append_drop k l]
 rw[yU5];omega
theorem uJw (D:Tag)(l:List Nat)(G:okEs D 1)(hs:sumN l<=4611686018427387904)(st:ISt):ICall prog gl 73 [.sl D (plI l)] st (λr st'=>r=.raw (.int .i64 (sumN l))/\st'=st):=by
 refine iI func73 ?_;simp only[go_sem,reduceCtorEq,yXj];intro _;refine LoopC.ctr l.length (λk fr st' ds=>fr 3=.iv (.raw (.int .i64 (sumN (l.take k))))/\fr 6=.iv (.sl D (plI l))/\fr 7=.iv (.raw (.int .i64 l.length))/\fr 8=.iv (.raw (.int .i64 k))/\st'=st/\ds=[]) ?_ ?_ ?_
 ·simp only[go_sem,zE];simp[sumN]
 ·rintro k fr E _ A ⟨f3,f6,f7,f8,rfl,rfl⟩;obtain⟨a,J⟩:=yQ1 A;have h1:=wZb l (k+1);have h2:sumN (l.take (k+1))=sumN (l.take k)+a:=by rw[yQ6 J,yU5];rfl
  have O:IntKind.i64.wrap (((sumN (l.take k):Nat):Int)+(a:Int))=((sumN (l.take (k+1)):Nat):Int):=by rw[w64]<;>omega
  simp only[go_sem,zE,f3,f6,f7,f8,lt_i A,yQ3 G,iNn,xJk J,fits,O,yQc A (show l.length<=281474976710656 by omega)]
 ·rintro fr E _ ⟨f3,f6,f7,f8,rfl,rfl⟩;rw[lTl] at f3;simp only[go_sem,zE,f3,f7,f8,yQl (nLi _)];exact yQ0 ⟨rfl,rfl⟩
def vV2:Tr->List Tr
 | .mk _ _ _ _ _ sub=>sub
def xGl (g:Nat)(v:Tr->Nat):Prop:=∀(t:Tr) (l:List Nat) (x:IV) (D:Tag) (A st:ISt),IsTr t x->t.steps<=1099511627776->l=(vV2 t).map v->own st D l.length 1 A->subSt A st →
 ICall prog gl g [x,.sl D (plI l)] st (λr st'=>r=.raw (.int .i64 (v t))/\subSt A st')
theorem zJn:∀ {l:List Tr}{t:Tr},t∈l->t.steps<=yQr l
 | a::l,t,h=>by
  simp only[yQr];rcases List.mem_cons.1 h with rfl|h
  ·omega
  ·have:=zJn h;omega
theorem yVg:∀l:List Tr,l.length<=yQr l
 | []=>Nat.le_refl _
 | .mk _ _ _ _ _ s::l=>by
  have:=yVg l;simp only[List.length_cons,yQr,Tr.steps];omega
def wGp (v:Tr->Nat)(g:Nat)(t:Tr):Prop:=∀(x:IV) (_:IsTr t x) (_:t.steps<=1099511627776) (st:ISt),ICall prog gl 71 [x,.fn (.func g) [] []] st (λr st'=>r=.raw (.int .i64 (v t))/\st'=st)
theorem wK2 (v:Tr->Nat)(g:Nat)(ac:entI prog g=true)(hg:xGl gl g v)(rule:Nat)(sq:Sq)(f:Fm)(u:Tm)(n:ByteArray)(sub:List Tr)(IH:∀a∈sub,wGp gl v g a):wGp gl v g (.mk rule sq f u n sub):=by
 intro x hx hs st;have ah:=hx;obtain⟨tl,xl,tr,xr,op,fn,ta,xa,tb,xb,vb,un,tu,xu,ts,xs,rfl,aO,_,_,_,_,_,_,e3,i3⟩:=hx.mk;have ai:=hs;simp only[Tr.steps] at hs;have hll:=yVg sub;refine iI func71 ?_;simp only[go_sem,zE,i3.len];intro _;refine LoopC.ctr sub.length (λk fr st' ds=>(∃D,fr 5=.iv (.sl D (plI ((sub.take k).map v)))/\own st' D k 1 st/\subSt st st')/\fr 1=.iv (.fn (.func g) [] [])/\fr 2=.box [.raw (.int .u8 rule),.sl tl xl,.sl tr xr,.raw (.int .u8 op),.raw (.string fn),.sl ta xa,.sl tb xb,.raw (.bool vb),.raw (.string un),.sl tu xu,.raw (.string n),.sl ts xs] /\
  fr 9=.iv (.sl ts xs)/\fr 10=.iv (.raw (.int .i64 sub.length))/\fr 11=.iv (.raw (.int .i64 k))/\ds=[]) ?_ ?_ ?_
 ·simp only[go_sem,zE];exact⟨⟨_,rfl,.inl ⟨rfl,rfl⟩,subSt.refl _⟩,rfl⟩
 ·rintro k fr J _ ab ⟨⟨D,f5,G,E⟩,f1,f2,f9,f10,f11,rfl⟩;obtain⟨a,ha⟩:=yQ1 ab;obtain⟨z,aj,hz⟩:=i3.get ha;have hst:=zJn (lMg ha);have A:=IH a (lMg ha) z hz (by omega) J;obtain⟨ag,aI,aw,aH,au,aN,aS,aL,az,aJ,ax,v',aC,aE,an,n',aG,aq,rfl⟩:=yZy hz;simp only[go_sem,zE,zB,zA,zL,f1,f5,f9,f10,f11,lt_i ab,yQ3 e3,iNn,aj,fits];refine A.mono ?_;rintro _ _ ⟨rfl,rfl⟩;simp only[go_sem,zE,zA,zM,zL,fits,yYx];refine yJj G (by rw[yXj,List.length_map,List.length_take];omega) E rfl (by simp[fits,IV.one]) (by simp only;omega) (by omega) λaf st4 aa O _ _=>?_;simp only[go_sem,zE,f1,f2,f9,f10,f11,yQc ab (show sub.length<=281474976710656 by omega)];exact⟨af,by rw[yQ6 ha,List.map_append,xUa];rfl,aa,O⟩
 ·rintro fr J _ ⟨⟨D,f5,G,E⟩,f1,f2,f9,f10,f11,rfl⟩;rw[lTl] at f5;have A:=hg _ (sub.map v) _ D st J ah ai rfl (by rw[List.length_map];exact G) E;simp only[go_sem,zE,zA,zL,f1,f2,f5,f10,f11,yQl (nLi _),ac];refine A.mono ?_;rintro _ aM ⟨rfl,U⟩;simp only[go_sem];exact yQg U ⟨rfl,rfl⟩
theorem xYn (v:Tr->Nat)(g:Nat)(A:entI prog g=true)(D:xGl gl g v):∀(k:Nat) (t:Tr),SizeOf.sizeOf t<k->wGp gl v g t
 | 0,t,h=>by omega
 | k+1,.mk r sq f u n sub,h=>wK2 gl v g A D r sq f u n sub (λa E=>xYn v g A D k a (by
   have:=lSm E;simp at h;omega))
theorem vWw (v:Tr->Nat)(g:Nat)(A:entI prog g=true)(D:xGl gl g v)(t:Tr):wGp gl v g t:=xYn gl v g A D _ t (Nat.lt_succ_self _)
theorem zJl:∀l:List Tr,sumN (l.map Tr.steps)=yQr l
 | []=>rfl
 | a::l=>by simp only[List.map_cons,sumN,yQr,zJl l]
theorem wK3:xGl gl 72 Tr.steps:=by
 rintro⟨rule,s,m,u,n,sub⟩ l x tg am st hx hs rfl D E;simp only[vV2] at D ⊢;simp only[Tr.steps] at hs;have A:=λst=>uJw gl tg (sub.map Tr.steps) D.es (by rw[zJl];omega) st;have hw:IntKind.i64.wrap (1+((yQr sub:Nat):Int))=((1+yQr sub:Nat):Int):=by rw[w64]<;>omega
 rw[zJl] at A;obtain⟨G,ai,aa,ah,U,an,au,al,ac,ak,ab,v',ae,af,J,n',ag,O,rfl⟩:=yZy hx;refine iI func72 ?_;simp only[go_sem,zE,zA];refine (A _).mono ?_;rintro _ _ ⟨rfl,rfl⟩;simp only[go_sem,hw];exact yQ0 ⟨by simp only[Tr.steps],E⟩
theorem wVq (t:Tr)(x:IV)(D:IsTr t x)(hs:t.steps<=1099511627776)(st:ISt):ICall prog gl 35 [x] st (λr st'=>r=.raw (.int .i64 (t.steps))/\st'=st):=by
 have hf:=λst=>vWw gl Tr.steps 72 (by simp only[go_sem]) (wK3 gl) t x D hs st;obtain⟨A,ag,O,af,J,aj,al,ai,aa,ah,U,v',ab,ac,E,n',ae,G,rfl⟩:=yZy D;refine iI func35 ?_;simp only[go_sem,zE,zA,zL];refine (hf _).mono ?_;rintro _ _ ⟨rfl,rfl⟩;simp only[go_sem];exact yQ0 ⟨rfl,rfl⟩
