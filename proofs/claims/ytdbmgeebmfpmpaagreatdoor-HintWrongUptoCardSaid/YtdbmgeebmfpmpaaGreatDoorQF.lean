/- Walks: settle. -/
import Derived.Test.YtdbmgeebmfpmpaaGreatDoorQE
import Derived.Test.YtdbmgeebmfpmpaaGreatDoorKG
set_option linter.all false
open Nat renaming reduceEqDiff → zE,reduceBEq → zB,reduceAdd → zA,reduceMul → zM,reduceSub → zS,reduceLeDiff → zL
namespace Go.Proofs.Tryz
open Go Go.Iv
set_option maxRecDepth 4000
variable (gl:Nat->Option IV)
theorem yJy {S:ISt}{b:Nat}{x y:Option IObj}(h:S b=none):((S.put b x).put b y).put b none=S:=by
 funext c;simp only[ISt.put_apply];split
 ·rename_i e;rw[e,h]
 ·rfl
theorem PS.start {gU gW gH rb n:Nat}{p1 p2 p3 p4:IV}{S0 st:ISt}(hgH:st gH=none)(eHR:rb≠gH)(hrb:S0 rb=none)(eUR:rb≠gU)(eUH:gU≠gH)(hgU:st gU=none)(eWU:gW≠gU)(eWR:rb≠gW)(eWH:gW≠gH)(hgW:st gW=none)(hsub:subSt S0 st) :
  PS gU gW gH rb n [p1,p2,p3,p4] S0 [] ((((st.put gH (some (.box (List.replicate n (.raw (.int .i64 0)))))).put rb (some (.box [p1,p2,p3,p4,slG gH n]))).put gU (some (.box (List.replicate n (.sl ⟨true,.nil,0⟩ []))))).put gW (some (.box (List.replicate n (.sl ⟨true,.nil,0⟩ [])))))
   (List.replicate n 0) [] (List.replicate n []):=by
 have hH0:=yXk hsub hgH;have hU0:=yXk hsub hgU;have hW0:=yXk hsub hgW;refine⟨⟨by rw[yQ7 eWR,yQ7 eUR,ISt.put_same];rfl,by rw[yQ7 eWH.symm,yQ7 eUH.symm,yQ7 eHR.symm,ISt.put_same];simp[yQj],List.length_replicate,by rw[ISt.put_same];simp[rwsI],rfl,λk g w h=>by simp at h,?_,λw h=>by cases h⟩,
  ⟨_,by rw[yQ7 eWU.symm,ISt.put_same],by simp,λp l hp=>?_,λp q t t' ys ys' g h1 _ h3=>?_⟩,yQa (yQa (yQa (yQa hsub hH0) hrb) hU0) hW0,⟨hU0,hW0,hH0,hrb,λg h=>by cases h⟩,?_,List.length_replicate⟩
 ·simp only[List.nodup_cons,List.mem_cons,List.not_mem_nil,or_false,not_or,nFt,List.nodup_nil,and_true];exact⟨⟨eWH,eWR.symm⟩,eHR.symm⟩
 ·rw[List.getElem?_replicate] at hp ⊢;split at hp
  ·rename_i hlt;cases hp;rw[if_pos hlt];exact⟨_,_,rfl,AllR.nil,own.nil ..⟩
  ·cases hp
 ·rw[List.getElem?_replicate] at h1;split at h1
  ·cases h1;cases h3
  ·cases h1
 ·simp only[List.mem_cons,List.not_mem_nil,or_false,not_or];exact⟨eWU.symm,eUH,eUR.symm⟩
def HtOk (cl:Nat->Prop)(i:Nat)(hs:List Nat):Prop:=∀(k x:Nat),hs[k]?=some x->(k<i->(x=1/\cl k)\/(x=0/\¬ cl k))/\(i<=k->x=0)
theorem xGu (cl:Nat->Prop)(n:Nat):HtOk cl 0 (List.replicate n 0):=λk x hk=>by
 rw[List.getElem?_replicate] at hk;split at hk
 ·cases hk;exact⟨λh=>absurd h (Nat.not_lt_zero _),λ_=>rfl⟩
 ·cases hk
def NwOk (hs now:List Nat):Prop:=(∀k,k∈now↔hs[k]?=some 1)/\now.Nodup
theorem HtOk.one {cl:Nat->Prop}{i:Nat}{hs:List Nat}(h:HtOk cl i hs)(hc:cl i):HtOk cl (i+1) (hs.set i 1):=λk x hk=>by
 rw[List.getElem?_set] at hk;split at hk
 ·rename_i e;subst e;split at hk
  ·cases hk;exact⟨λ_=>.inl ⟨rfl,hc⟩,λh=>by omega⟩
  ·cases hk
 ·rename_i e;obtain⟨h1,h2⟩:=h k x hk;exact⟨λhlt=>h1 (by omega),λhge=>h2 (by omega)⟩
theorem HtOk.zero {cl:Nat->Prop}{i:Nat}{hs:List Nat}(h:HtOk cl i hs)(hc:¬ cl i):HtOk cl (i+1) hs:=λk x hk=>by
 obtain⟨h1,h2⟩:=h k x hk;refine⟨λhlt=>?_,λhge=>h2 (by omega)⟩;by_cases e:k=i
 ·subst e;exact .inr ⟨h2 (Nat.le_refl _),hc⟩
 ·exact h1 (by omega)
theorem NwOk.add {hs now:List Nat}{i:Nat}(h:NwOk hs now)(hx:hs[i]?=some 0):NwOk (hs.set i 1) (now++[i]):=by
 have hni:i ∉ now:=λhm=>by have:=(h.1 i).1 hm;rw[hx] at this;cases this
 refine⟨λk=>?_,List.nodup_append.2 ⟨h.2,by simp,λa ha b hb=>by rw[List.mem_singleton.1 hb];rintro rfl;exact hni ha⟩⟩;rw[List.mem_append,List.mem_singleton,List.getElem?_set];by_cases e:i=k
 ·subst e;rw[if_pos rfl,if_pos (lGs hx).1];simp
 ·rw[if_neg e,h.1 k];exact⟨λh=>h.resolve_right λh=>e h.symm,.inl⟩
theorem NwOk.len {hs now:List Nat}(h:NwOk hs now):now.length<=hs.length:=by
 have:=zYy (b:=List.range hs.length) h.2 λx hx=>List.mem_range.2 (lGs ((h.1 x).1 hx)).1
 rwa [List.length_range] at this
theorem wJl {p:Nat}:∀(l:List Us) (E:List (Nat×Us)),(∀u,l.count u<=E.count (p,u))->l.length<=E.length
 | [],_,_=>Nat.zero_le _
 | a::l,E,h=>by
  have ha:=h a;rw[List.count_cons_self] at ha;have hm:(p,a)∈E:=List.count_pos_iff.1 (by omega);have:=wJl (p:=p) l (E.erase (p,a)) λu=>by
   have hu:=h u;rw[List.count_erase];by_cases e:a=u
   ·subst e;rw[List.count_cons_self] at hu;rw[if_pos (by simp)];omega
   ·rw[List.count_cons_of_ne e] at hu;rw[if_neg (by simp[e])];omega
  rw[List.length_erase_of_mem hm] at this;have:=List.length_pos_of_mem hm;rw[List.length_cons];omega
theorem UsOk.len {us:List (List Us)}{E:List (Nat×Us)}(h:UsOk us E){p:Nat}{l:List Us}(hp:us[p]?=some l):l.length<=E.length :=
 wJl (p:=p) l E λu=>by rw[<- h p u];unfold usAt;rw[hp];exact Nat.le_refl _
theorem zGq {α β:Type}{F:α->List β}{c:Nat}:∀ {l:List α},(∀x∈l,(F x).length<=c)->(l.flatMap F).length<=c*l.length
 | [],_=>by simp
 | a::l,h=>by
  have h1:=h a (.head _);have h2:=zGq (l:=l) λx hx=>h x (.tail _ hx);rw[List.flatMap_cons,lLa,List.length_cons,Nat.mul_add,Nat.mul_one];omega
theorem wJ9 {i:Nat}{l:List Lk}(h:∀k∈l,k.2.2.length<=2):(evL i l).length<=2*l.length:=by
 have:=zGq (F:=λkj:Lk×Nat=>evK (i,kj.2) kj.1.2.2) (c:=2) (l:=l.zipIdx) λx hx=>by
  unfold evK;rw[List.length_map];exact h _ (List.fst_mem_of_mem_zipIdx hx)
 rwa [List.length_zipIdx] at this
theorem wJa {links:List (List Lk)}(h:∀l∈links,l.length<=16000000/\∀k∈l,k.2.2.length<=2):(evA links).length<=32000000*links.length:=by
 have:=zGq (F:=λli:List Lk×Nat=>evL li.2 li.1) (c:=32000000) (l:=links.zipIdx) λx hx=>by
  obtain⟨h1,h2⟩:=h _ (List.fst_mem_of_mem_zipIdx hx);have:=wJ9 (i:=x.2) h2;omega
 rwa [List.length_zipIdx] at this
def RdS (links:List (List Lk))(hs:List Nat)(S:Ss):Prop:=S.1.count 0+S.2.2.length=hs.count 0/\∀u,lkAt links u≠[]->∃x,atW S.2.1 u=some x
theorem RdS.step {links:List (List Lk)}{hs:List Nat}{S:Ss}(h:RdS links hs S){H:Nat}(hH:0<H)(u:Us):RdS links hs (yJ9 H S u):=by
 have hw:(yJ9 H S u).2.1=decW S.2.1 u:=by unfold yJ9;split<;>rfl
 refine⟨?_,λv hv=>?_⟩
 ·unfold yJ9;split
  ·rename_i hc;obtain⟨h1,h2⟩:=lGs hc.2;have:=List.count_set (a:=H) (b:=0) h1;have hp:0<S.1.count 0:=List.count_pos_iff.2 (by rw[<- h2];exact List.getElem_mem h1);have h3:=h.1;simp only[lLa,List.length_singleton];rw[this,h2,if_pos (by simp),if_neg (by simp;omega)];omega
  ·exact h.1
 ·obtain⟨x,hx⟩:=h.2 v hv;rw[hw,zZf];split
  ·exact⟨_,by rw[hx];rfl⟩
  ·exact⟨x,hx⟩
def rowJ (l:List Lk)(j:Nat):List Nat:=(l.take j).map (λk=>k.2.2.length)++List.replicate (l.length-j) 0
theorem wQy (l:List Lk):rowJ l 0=List.replicate l.length 0:=by simp[rowJ]
theorem wVd (l:List Lk){j:Nat}(h:j<=l.length):(rowJ l j).length=l.length:=by
 unfold rowJ;rw[lLa,List.length_map,List.length_take,List.length_replicate];omega
theorem wVe (l:List Lk):rowJ l l.length=l.map λk=>k.2.2.length:=by simp[rowJ]
theorem xV6 {l:List Lk}{j:Nat}{k:Lk}(h:l[j]?=some k):(rowJ l j).set j k.2.2.length=rowJ l (j+1):=by
 have hj:=(lGs h).1;unfold rowJ;rw[yQ8 h,List.map_append];have h1:((l.take j).map λk:Lk=>k.2.2.length).length=j:=by rw[List.length_map,List.length_take];omega
 rw[List.set_append_right _ _ (by omega),h1,Nat.sub_self];obtain⟨m,hm⟩:∃m,l.length-j=m+1:=⟨l.length-j-1,by omega⟩
 rw[hm,show l.length-(j+1)=m by omega,List.replicate_succ,List.set_cons_zero,List.append_assoc];rfl
theorem wV4 (ca m:Nat)(W:List Fm)(hS:SpOk ca W)(tw:Tag)(xw:List IV)(htw:okEs tw 4)(hxw:IsFms W xw)(hWs:W.length<=200000)(lines:List Ln)(links:List (List Lk))(hA:LksAll ca W lines links)(hlen:lines.length<=20000)
  (tl tk:Tag) (xl xk:List IV) (mN rb:Nat) (hxl:AllR IsLn lines xl) (hxk:AllR wY9 links xk) (htl:okEs tl 2) (htk:okEs tk 1) (S0 st:ISt)
  (hrb:st rb=some (.box [spI ca tw xw m,.sl tl xl,.raw (.map (some mN)),.sl tk xk,.sl ⟨true,.nil,0⟩ []])) (h0:S0 rb=none) (hsub:subSt S0 st) :
  ICall prog gl 54 [ptr rb] st (λr st'=>r=.tup []/\∃gH hs,st' rb=some (.box [spI ca tw xw m,.sl tl xl,.raw (.map (some mN)),.sl tk xk,slG gH lines.length])/\st' gH=some (.box (yQj hs)) /\
   hs.length=lines.length/\(∀i x,hs[i]?=some x->LstG (clL W lines) links i x)/\subSt S0 st'):=by
 have hxll:=hxl.1;have hxkl:=hxk.1;have hll:=hA.len;refine ICall.introF (t:=3) (n:=4) (c:=cf prog gl [25,3,56,60,96,152,3000027,3000035,3000041,3000084] [(8,[0,1,2,4,5,6,8,16,3,7,9,10,11,12,13,14,15,17,18,19])] [1]) func54 rfl (by show _<=165;simp) (by show _<165;simp) (by kernel_rfl) ?_;simp only[go_sem,zE,zA,zL,fits,hrb];refine yQm ⟨by omega,by omega,by omega⟩ λgH=>yQ9 λhgH=>yQm rfl ?_;have eHR:rb≠gH:=λe=>by rw[e,hgH] at hrb;cases hrb
 rw[yQ7 eHR,hrb];simp only[go_sem,zA,zL];intro _;refine yQm ⟨by omega,by omega,by omega⟩ λgU=>yQ9 λhgU=>?_;have eUR:rb≠gU:=λe=>by rw[<- e,ISt.put_same] at hgU;cases hgU
 rw[yQ7 eUR.symm] at hgU;have eUH:gU≠gH:=λe=>by rw[e,ISt.put_same] at hgU;cases hgU
 rw[yQ7 eUH] at hgU;rw[yQ7 eUR];simp only[go_sem,ISt.put_same];intro _;refine yQm ⟨by omega,by omega,by omega⟩ λgW=>yQ9 λhgW=>?_;have eWU:gW≠gU:=λe=>by rw[e,ISt.put_same] at hgW;cases hgW
 rw[yQ7 eWU] at hgW;have eWR:rb≠gW:=λe=>by rw[<- e,ISt.put_same] at hgW;cases hgW
 rw[yQ7 eWR.symm] at hgW;have eWH:gW≠gH:=λe=>by rw[e,ISt.put_same] at hgW;cases hgW
 rw[yQ7 eWH] at hgW;refine λb3=>yQ9 λhb3=>yQm rfl ?_;refine⟨b3,slG gW xl.length,by simp only[go_sem],ISt.put_same ..,?_⟩;rw[yJy hb3,show age (slG gW xl.length)=slG gW xl.length by simp only[age]];rw[hxll];have hP0:=PS.start (n:=lines.length) (p1:=spI ca tw xw m) (p2:=.sl tl xl) (p3:=.raw (.map (some mN))) (p4:=.sl tk xk) hgH eHR h0 eUR eUH hgU eWU eWR eWH hgW hsub;generalize ((((st.put gH (some (.box (List.replicate lines.length (.raw (.int .i64 0)))))).put rb (some (.box [spI ca tw xw m,.sl tl xl,.raw (.map (some mN)),.sl tk xk,slG gH lines.length]))).put gU (some (.box (List.replicate lines.length (.sl ⟨true,.nil,0⟩ []))))).put gW (some (.box (List.replicate lines.length (.sl ⟨true,.nil,0⟩ [])))))=st1 at hP0 ⊢;have hrb1:=hP0.mem.rbx;simp only[List.cons_append,List.nil_append] at hrb1;have hLall:∀l∈links,l.length<=16000000:=λl hlm=>by
  obtain⟨i,hi,rfl⟩:=List.mem_iff_getElem.1 hlm;obtain⟨ln,hln,hs⟩:=hA.done i _ (List.getElem?_eq_getElem hi);rcases hs with⟨_,h0⟩|⟨_,vs,hvs,hlk⟩
  ·rw[h0];exact Nat.zero_le _
  ·have:=zG0 hS hWs (hA.ok ln (lMg hln));rw[hvs,List.length_map] at this;rw[hlk.1];exact this
 simp only[go_sem,zE,fits,hrb1];intro _;refine LoopC.ctr xk.length (λi fr st' ds=>(∃gs hs us tn now,PS gU gW gH rb lines.length [spI ca tw xw m,.sl tl xl,.raw (.map (some mN)),.sl tk xk] S0 gs st' hs (wsOf (links.take i)) us/\UsOk us (evA (links.take i))/\own st' tn now.length 1 S0/\fr 4=.iv (.sl tn (i32I now))/\HtOk (clL W lines) i hs/\NwOk hs now) /\
  fr 1=.iv (.cptr (ptr rb))/\fr 2=.iv (slG gU lines.length)/\fr 3=.iv (.cptr (slG gW lines.length))/\fr 45=.iv (.sl tk xk)/\fr 46=.iv (.raw (.int .i64 xk.length))/\fr 47=.iv (.raw (.int .i64 (i:Int)))/\ds=[]) ?_ ?_ ?_
 ·simp only[go_sem,zE];exact⟨⟨[],_,_,⟨true,.nil,0⟩,[],hP0,UsOk.nil _,own.nil ..,rfl,xGu _ _,⟨λk=>by rw[List.getElem?_replicate];split<;>simp,List.nodup_nil⟩⟩,rfl⟩
 ·rintro i fr st2 _ hlt ⟨⟨gs,hs,us,tn,now,hP,hU,hown,f4,hH,hN⟩,f1,f2,f3,f45,f46,f47,rfl⟩;have hil:i<links.length:=by omega
  obtain⟨l,hl⟩:=yQ1 hil;obtain⟨ln,hln⟩:=yQ1 (show i<lines.length by omega);have hlok:=hA.ok ln (lMg hln);obtain⟨_,hxi,tL,yL,rfl,htL,hyL⟩:=hxk.2 i l hl;obtain⟨z,hzi,hz⟩:=hxl.2 i ln hln;have hax:=λst=>xK2 gl ca m W hS tw xw htw hxw ln hlok z hz st;obtain⟨ta,tb,rfl,ea,eb⟩:=hz;have hrb2:=hP.mem.rbx;simp only[List.cons_append,List.nil_append] at hrb2;simp only[go_sem,zE,zB,zA,f1,f45,f46,f47,lt_i hlt,yQ4 htk,yQ4 htl,iNn,hxi,hzi,hrb2,fits,IV.one];refine (hax _).mono ?_;rintro _ st2 ⟨⟨zf,rfl,hzf⟩,rfl⟩;obtain⟨y1,y2,y3,y4,y5,y6,rfl⟩:=hzf.agg;have hcl:=wJr (W:=W) hlok.1;have hclL:clL W lines i↔(axW W ln).isSome=true:=by
   rw[hcl];exact⟨λ⟨a,ha,hc⟩=>by rw[hln] at ha;cases ha;exact hc,λhc=>⟨ln,hln,hc⟩⟩
  simp only[go_sem,zE,zA,zL];refine zGy (λfr st' ds=>(∃hs us tn now,PS gU gW gH rb lines.length [spI ca tw xw m,.sl tl xl,.raw (.map (some mN)),.sl tk xk] S0 gs st' hs (wsOf (links.take i)) us/\UsOk us (evA (links.take i))/\own st' tn now.length 1 S0/\fr 4=.iv (.sl tn (i32I now))/\HtOk (clL W lines) (i+1) hs/\NwOk hs now) /\
   fr 1=.iv (.cptr (ptr rb))/\fr 2=.iv (slG gU lines.length)/\fr 3=.iv (.cptr (slG gW lines.length))/\fr 5=.iv (.raw (.int .i64 (i:Int)))/\fr 6=.iv (.sl tL yL)/\fr 45=.iv (.sl tk xk)/\fr 46=.iv (.raw (.int .i64 xk.length))/\fr 47=.iv (.raw (.int .i64 (i:Int)))/\ds=[]) ?_ (λhs1=>?_) (λhs1=>?_)
  ·rintro fr st3 _ ⟨⟨hs,us,tn,now,hP,hU,hown,f4,hH,hN⟩,f1,f2,f3,f5,f6,f45,f46,f47,rfl⟩;have hyl:=hyL.1;have hLl:=hLall l (lMg hl);have hiL:i<lines.length:=by omega
   have hgl:gs.length=i:=by rw[hP.mem.gll];unfold wsOf;rw[List.length_map,List.length_take];omega
   simp only[go_sem,zE,zA,f3,f5,f6,fits,IV.one,Nat.mul_one,iNn,hiL];refine yQm (by omega) λg=>yQ9 λhg=>?_;have hgW2:gW≠g:=λe=>by rw[<- e,hP.mem.wts] at hg;cases hg
   have hPr:=hP.row hg (w:=List.replicate l.length 0) (λx hx=>by rw[List.eq_of_mem_replicate hx];decide) (by omega);have hwt:=hP.mem.wts;rw[hgl] at hPr hwt;rw[yQ7 hgW2,hwt];have hrl:(rwsI gs (wsOf (links.take i))++List.replicate (lines.length-i) (IV.sl ⟨true,.nil,0⟩ [])).length=lines.length:=by
    unfold rwsI;rw[lLa,List.length_zipWith,List.length_replicate,<- hP.mem.gll,Nat.min_self];omega
   have hset:∀y:IV,List.take i (rwsI gs (wsOf (links.take i))++List.replicate (lines.length-i) (IV.sl ⟨true,.nil,0⟩ []))++[y]++List.drop (i+1) (rwsI gs (wsOf (links.take i))++List.replicate (lines.length-i) (IV.sl ⟨true,.nil,0⟩ [])) =
     (rwsI gs (wsOf (links.take i))++List.replicate (lines.length-i) (IV.sl ⟨true,.nil,0⟩ [])).set i y:=λy=>by
    rw[<- yKn (by rw[hrl];exact hiL)];rfl
   have hPr2:=hPr;rw[List.length_replicate,<- hyl] at hPr;simp only[u8J,List.map_replicate] at hPr;simp only[go_sem,hrl,hset];rw[if_pos (show i+1<=lines.length from hiL)];intro _;rw[show List.replicate yL.length 0=rowJ l 0 by rw[wQy,hyl]] at hPr;have hown2:own ((st3.put g (some (.box (List.replicate yL.length (.raw (.int .u8 ((0:Nat):Int))))))).put gW (some (.box ((rwsI gs (wsOf (links.take i))++List.replicate (lines.length-i) (IV.sl ⟨true,.nil,0⟩ [])).set i (slG g yL.length))))) tn now.length 1 S0:=hown.mono λg' hg' _=>by
    rw[yQ7 (λe=>by rw[e,hP.mem.wts] at hg';cases hg'),yQ7 (λe=>by rw[e,hg] at hg';cases hg')];exact hg'
   refine (?_:∀st4,PS gU gW gH rb lines.length _ S0 (gs++[g]) st4 hs (wsOf (links.take i)++[rowJ l 0]) us->own st4 tn now.length 1 S0->LoopC _ _ _ _ st4 _) _ hPr hown2;intro st4 hPr hown2;clear hown hP hPr2;refine LoopC.ctr yL.length (λj fr st' ds=>(∃us,PS gU gW gH rb lines.length [spI ca tw xw m,.sl tl xl,.raw (.map (some mN)),.sl tk xk] S0 (gs++[g]) st' hs (wsOf (links.take i)++[rowJ l j]) us/\UsOk us (evA (links.take i)++evL i (l.take j))/\own st' tn now.length 1 S0) /\
    fr 1=.iv (.cptr (ptr rb))/\fr 2=.iv (slG gU lines.length)/\fr 3=.iv (.cptr (slG gW lines.length))/\fr 4=.iv (.sl tn (i32I now))/\fr 5=.iv (.raw (.int .i64 (i:Int)))/\fr 45=.iv (.sl tk xk)/\fr 46=.iv (.raw (.int .i64 xk.length))/\fr 47=.iv (.raw (.int .i64 (i:Int))) /\
    fr 86=.iv (.sl tL yL)/\fr 87=.iv (.raw (.int .i64 yL.length))/\fr 88=.iv (.raw (.int .i64 (j:Int)))/\ds=[]) ?_ ?_ ?_
   ·simp only[go_sem,zE];exact⟨⟨us,hPr,by simpa[evL] using hU,hown2⟩,f1,f2,f3,f4,f5,f45,f46,f47,rfl⟩
   ·rintro j fr st5 _ hjt ⟨⟨us,hP,hU,hown⟩,f1,f2,f3,f4,f5,f45,f46,f47,f86,f87,f88,rfl⟩;have hjl:j<l.length:=by rw[<- hyl];exact hjt
    obtain⟨k,hk⟩:=yQ1 hjl;obtain⟨xk1,hxk1,hxk2⟩:=hyL.2 j k hk;obtain⟨_,hk2,hk3,hk4,hk5⟩:=hA.lk hS (lMg hl) (lMg hk);have hto:=λst=>to_c gl k xk1 hxk2 hk2 st;obtain⟨kp,kq,rfl,hkq⟩:=id hxk2;have hwt:=hP.mem.wts;have hgi:(gs++[g])[i]?=some g:=by rw[<- hgl,List.getElem?_append_right (Nat.le_refl _),Nat.sub_self];rfl
    have hwl:(wsOf (links.take i)).length=i:=by unfold wsOf;rw[List.length_map,List.length_take];omega
    have hwi:(wsOf (links.take i)++[rowJ l j])[i]?=some (rowJ l j):=by rw[List.getElem?_append_right (by omega),hwl,Nat.sub_self];rfl
    have hrw:=hP.mem.row i g _ hgi hwi;have hrwl:=wVd l (j:=j) (by omega);have hwci:(rwsI (gs++[g]) (wsOf (links.take i)++[rowJ l j])++List.replicate (lines.length-(gs++[g]).length) (IV.sl ⟨true,.nil,0⟩ []))[i]?=some (slG g (rowJ l j).length):=by
     have:=zYk hgi hwi;rw[List.getElem?_append_left (lGs this).1];exact this
    have hjr:j<(rowJ l j).length:=by rw[hrwl];exact hjl
    simp only[go_sem,zE,zB,zA,zL,f3,f5,f86,f87,f88,lt_i hjt,yQ4 htL,iNn,hxk1,hwt,hwci,hrw,hjr,hiL,fits,IV.one,Nat.mul_one,Nat.zero_add];have hset2:List.take j (u8J (rowJ l j))++[.raw (.int .u8 (k.2.2.length:Int))]++List.drop (j+1) (u8J (rowJ l j))=u8J (rowJ l (j+1)):=by
     rw[<- xV6 hk,<- wQ1,<- yKn (by rw[zY9];exact hjr)];rfl
    rw[if_pos (by rw[zY9];omega),hset2];have hP':=hP.setW hgi hwi j (v:=k.2.2.length) (by omega);rw[xV6 hk,show (wsOf (links.take i)++[rowJ l j]).set i (rowJ l (j+1))=wsOf (links.take i)++[rowJ l (j+1)] by rw[List.set_append_right _ _ (by omega),hwl,Nat.sub_self];rfl] at hP';have hown':own (st5.put g (some (.box (u8J (rowJ l (j+1)))))) tn now.length 1 S0:=hown.mono λg' hg' _=>(yVx hrw hg').trans hg';generalize st5.put g (some (.box (u8J (rowJ l (j+1)))))=st6 at hP' hown' ⊢;clear hP hown hwt hrw hset2;refine (hto _).mono ?_;rintro _ st6 ⟨⟨tp,rfl,htp⟩,rfl⟩;simp only[go_sem,zQ8];intro _;refine LoopC.ctr k.2.2.length (λq fr st' ds=>(∃us,PS gU gW gH rb lines.length [spI ca tw xw m,.sl tl xl,.raw (.map (some mN)),.sl tk xk] S0 (gs++[g]) st' hs (wsOf (links.take i)++[rowJ l (j+1)]) us/\UsOk us (evA (links.take i)++evL i (l.take j)++evK (i,j) (k.2.2.take q))/\own st' tn now.length 1 S0) /\
     fr 1=.iv (.cptr (ptr rb))/\fr 2=.iv (slG gU lines.length)/\fr 3=.iv (.cptr (slG gW lines.length))/\fr 4=.iv (.sl tn (i32I now))/\fr 5=.iv (.raw (.int .i64 (i:Int)))/\fr 45=.iv (.sl tk xk)/\fr 46=.iv (.raw (.int .i64 xk.length))/\fr 47=.iv (.raw (.int .i64 (i:Int))) /\
     fr 86=.iv (.sl tL yL)/\fr 87=.iv (.raw (.int .i64 yL.length))/\fr 88=.iv (.raw (.int .i64 (j:Int)))/\fr 10=.iv (.raw (.int .i64 (j:Int)))/\fr 102=.iv (.sl tp (i32I k.2.2))/\fr 103=.iv (.raw (.int .i64 k.2.2.length))/\fr 104=.iv (.raw (.int .i64 (q:Int)))/\ds=[]) ?_ ?_ ?_
    ·simp only[go_sem,zE];exact⟨⟨us,hP',by simpa[evK] using hU,hown'⟩,f1,f2,f3,f4,f5,f45,f46,f47,f86,f87,f88,rfl⟩
    ·rintro q fr st7 _ hq ⟨⟨us,hP,hU,hown⟩,f1,f2,f3,f4,f5,f45,f46,f47,f86,f87,f88,f10,f102,f103,f104,rfl⟩;obtain⟨p,hp⟩:=yQ1 hq;have hpn:=hk5 p (lMg hp);obtain⟨cells,c1,c2,c3,c4⟩:=hP.usr.ex;obtain⟨lu,hlu⟩:=yQ1 (l:=us) (k:=p) (by rw[hP.ul,<- hll];exact hpn);obtain⟨tu,yu,d1,d2,d3⟩:=c3 p lu hlu;have hcv:=λn:Int=>yXz prog 3 21 zVl zXk .i64 n;have hw1:IntKind.i32.wrap (i:Int)=(i:Int):=IntWalk.i32_in _ (by omega);have hw2:IntKind.i32.wrap (j:Int)=(j:Int):=IntWalk.i32_in _ (by omega);have hpL:p<lines.length:=by rw[<- hll];exact hpn
     simp only[go_sem,zE,zA,zM,zL,f2,f5,f10,f102,f103,f104,lt_i hq,yQ4 htp,iNn,xWi hp,yUm,c1,d1,hpL,hcv,hw1,hw2,yQ3,fits,IV.one,Nat.mul_one,Nat.zero_add];have hub:=hU.len hlu;have hE1:(evA (links.take i)).length<=32000000*20000:=by
      have h1:=wJa (links:=links.take i) λl' hl'=>⟨hLall l' (List.mem_of_mem_take hl'),λk' hk'=>(hA.lk hS (List.mem_of_mem_take hl') hk').2.1⟩
      have h2:(links.take i).length<=20000:=by rw[List.length_take];omega
      exact Nat.le_trans h1 (Nat.mul_le_mul_left _ h2)
     have hE2:(evL i (l.take j)).length<=2*16000000:=by
      have h1:=wJ9 (i:=i) (l:=l.take j) λk' hk'=>(hA.lk hS (lMg hl) (List.mem_of_mem_take hk')).2.1;have h2:(l.take j).length<=16000000:=by rw[List.length_take];omega
      exact Nat.le_trans h1 (Nat.mul_le_mul_left _ h2)
     have hE3:(evK (i,j) (k.2.2.take q)).length<=2:=by unfold evK;rw[List.length_map,List.length_take];omega
     rw[lLa,lLa] at hub;refine zU0 d3 d2.1 hP.base rfl (by simp[fits,IV.one]) (by simp only;omega) (by omega) λtg' st8 w1 w2 w3 w4=>?_;have hPn:=hP.addU (u:=(i,j)) rfl hlu c1 d1 w1 w2 w3 w4;have hc8:st8 gU=some (.box cells):=w3 _ _ c1 λe=>by rw[zQw d3 e] at c1;cases c1
     have hown8:own (st8.put gU (some (.box (cells.set p (.sl tg' (yu++[.agg [.raw (.int .i32 (i:Int)),.raw (.int .i32 (j:Int))]])))))) tn now.length 1 S0:=hown.mono λg' hg' _=>by
      rw[yQ7 λe=>by rw[e,c1] at hg';cases hg'];exact w3 _ _ hg' λe=>by rw[zQw d3 e] at hg';simp at hg'
     simp only[go_sem,zE,f1,f2,f3,f4,f5,f10,f45,f46,f47,f86,f87,f88,f102,f103,f104,hc8,hpL,yQd hq (show k.2.2.length<=281474976710656 by omega),IV.one,Nat.mul_one];have hcl8:p<cells.length:=(lGs d1).1;rw[if_pos (iNn _),if_pos (show p+1<=cells.length from hcl8)];have hUn:=hU.add (p:=p) (u:=(i,j)) (lGs hlu).1;rw[show usAt us p=lu by unfold usAt;rw[hlu];rfl,List.append_assoc,<- wWk hp] at hUn;exact⟨_,by rw[<- yKn hcl8] at hPn;exact hPn,hUn,by rw[<- yKn hcl8] at hown8;exact hown8⟩
    ·rintro fr st7 _ ⟨⟨us,hP,hU,hown⟩,f1,f2,f3,f4,f5,f45,f46,f47,f86,f87,f88,f10,f102,f103,f104,rfl⟩;simp only[go_sem,zE,f1,f2,f3,f4,f5,f45,f46,f47,f86,f87,f88,f103,f104,yQl (nLi _)];rw[lTl,List.append_assoc,<- wWj hk] at hU;exact⟨⟨us,hP,hU,hown⟩,by rw[yQd hjt (by omega)]⟩
   ·rintro fr st5 _ ⟨⟨us,hP,hU,hown⟩,f1,f2,f3,f4,f5,f45,f46,f47,f86,f87,f88,rfl⟩;rw[hyl,lTl,<- wWl hl] at hU;rw[hyl,show wsOf (links.take i)++[rowJ l l.length]=wsOf (links.take (i+1)) by rw[yQ8 hl,wVe];unfold wsOf;rw[List.map_append];rfl] at hP;simp only[go_sem,zE,f1,f2,f3,f4,f45,f46,f47,f87,f88,yQl (nLi _),yQd hlt (show xk.length<=281474976710656 by omega)];exact⟨_,hs,us,tn,now,hP,hU,hown,rfl,hH,hN⟩
  ·have hht:=hP.mem.hts;have hhl:=hP.mem.hl;have hiL:i<lines.length:=by omega
   have hcv:=λn:Int=>yXz prog 3 21 zVl zXk .i64 n;have hw:IntKind.i32.wrap (i:Int)=(i:Int):=IntWalk.i32_in _ (by omega);simp only[go_sem,zE,zA,zL,f1,f4,hrb2,hht,fits,IV.one,Nat.mul_one,Nat.zero_add,iNn,hiL,yQ3,hcv,hw];have hset:List.take i (yQj hs)++[.raw (.int .i64 1)]++List.drop (i+1) (yQj hs)=yQj (hs.set i 1):=by
    rw[<- xW8,<- yKn (by rw[yQt,hhl];exact hiL)];rfl
   rw[if_pos (by rw[yQt,hhl];omega),hset];have hP':=hP.setH i 1;have hown':own (st2.put gH (some (.box (yQj (hs.set i 1))))) tn now.length 1 S0:=hown.mono λg hg _=>(yVx hht hg).trans hg;have hx0:hs[i]?=some 0:=by
    obtain⟨x,hx⟩:=yQ1 (l:=hs) (k:=i) (by rw[hhl];exact hiL);rw[hx,(hH i x hx).2 (Nat.le_refl _)]
   have hnl:=hN.len;generalize st2.put gH (some (.box (yQj (hs.set i 1))))=st3 at hP' hown' ⊢;refine zU0 hown' (zQ8 now) hP'.base rfl (by simp[fits,IV.one]) (by simp only;omega) (by omega) λtn' st4 w1 w2 w3 w4=>?_;simp only[go_sem,zE,f1,f2,f3,f45,f46,f47];exact⟨_,us,tn',now++[i],hP'.far hown' w2 w3,hU,by rw[lLa];exact w1,by simp[i32I],hH.one (hclL.2 hs1),hN.add hx0⟩
  ·simp only[go_sem,zE,f1,f2,f3,f4,f45,f46,f47];exact⟨hs,us,tn,now,hP,hU,hown,rfl,hH.zero (λh=>(by rw[hclL.1 h] at hs1;cases hs1)),hN⟩
 ·rintro fr st2 _ ⟨⟨gs,hs,us,tn,now,hP,hU,hown,f4,hH,hN⟩,f1,f2,f3,f45,f46,f47,rfl⟩;rw[hxkl,lTl] at hP hU;rw[hxkl] at hH;have hus:∀p u,(usAt us p).count u=(lkAt links u).count p:=λp u=>(hU p u).trans (vQs links p u);have hR0:Rnd (clL W lines) links 2 hs (wsOf links) now:=Rnd.start (λl hl k hk=>(hA.lk hS hl hk).1) (by rw[hP.mem.hl,hll]) (λi x hx=>(hH i x hx).1 (by rw[hll,<- hP.mem.hl];exact (lGs hx).1)) hN.1 hN.2;have hgsn:gs.length=lines.length:=by rw[hP.mem.gll];unfold wsOf;rw[List.length_map,hll]
  have h2:∀u,(lkAt links u).length<=2:=λu=>by
   unfold lkAt;cases hk:((links[u.1]?).getD [])[u.2]? with
   | none=>simp
   | some k =>
    cases hl:links[u.1]? with
    | none=>rw[hl] at hk;simp at hk
    | some l =>
     rw[hl] at hk;exact (hA.lk hS (lMg hl) (lMg hk)).2.1
  have hin:∀u,∀p∈lkAt links u,p<links.length:=λu p hp=>by
   unfold lkAt at hp;cases hk:((links[u.1]?).getD [])[u.2]? with
   | none=>rw[hk] at hp;cases hp
   | some k =>
    rw[hk] at hp;cases hl:links[u.1]? with
    | none=>rw[hl] at hk;simp at hk
    | some l =>
     rw[hl] at hk;exact (hA.lk hS (lMg hl) (lMg hk)).2.2.2.2 p hp
  have hcz:hs.count 0<=20000:=by
   have:=List.count_le_length (a:=0) (l:=hs);have:=hP.mem.hl;omega
  simp only[go_sem,zE,f1,f3,f46,f47,yQl (nLi _)];refine LoopC.dec (2*hs.count 0+if now=[] then 0 else 1) (λq fr st' ds=>(∃H hs ws tn now,q=2*hs.count 0+(if now=[] then 0 else 1)/\2<=H/\H+hs.count 0<=20002+(if now=[] then 1 else 0)/\PS gU gW gH rb lines.length [spI ca tw xw m,.sl tl xl,.raw (.map (some mN)),.sl tk xk] S0 gs st' hs ws us /\
   Rnd (clL W lines) links H hs ws now/\okEs tn 1/\fr 4=.iv (.sl tn (i32I now))/\fr 15=.iv (.raw (.int .i64 (H:Int)))) /\
   fr 1=.iv (.cptr (ptr rb))/\fr 2=.iv (slG gU lines.length)/\fr 3=.iv (.cptr (slG gW lines.length))/\fr 14=.iv (.fn (.func 79) [] [.cptr (slG gW lines.length),.cptr (ptr rb)])/\ds=[]) ?_ ?_
  ·simp only[go_sem,zE,f1,f2,f3,f4];exact⟨2,hs,_,tn,now,rfl,Nat.le_refl _,by omega,hP,hR0,hown.es,rfl,rfl⟩
  ·rintro q fr st3 _ ⟨⟨H,hs,ws,tn,now,hq,hH2,hHz,hP,hR,htn,f4,f15⟩,f1,f2,f3,f14,rfl⟩;by_cases hne:now=[]
   ·subst hne;simp only[go_sem,zL,f4,zQ8,List.length_nil,show decide (((0:Nat):Int) > 0)=false from rfl];have hrb3:=hP.mem.rbx;simp only[List.cons_append,List.nil_append] at hrb3;exact yQ0 ⟨rfl,gH,hs,hrb3,hP.mem.hts,hP.mem.hl,(Sett.right (us:=us) (.done H hs ws) hR hH2 hus h2 hin).2,hP.base⟩
   ·have hpos:0<now.length:=List.length_pos_iff.2 hne;rw[if_neg hne] at hq hHz;simp only[go_sem,zE,f4,zQ8,show decide (((now.length:Nat):Int) > 0)=true from dEt (by omega)];intro _ _;refine LoopC.ctr now.length (λa fr st' ds=>(∃tq S,S=((now.take a).flatMap (usAt us)).foldl (yJ9 H) (hs,ws,[])/\PS gU gW gH rb lines.length [spI ca tw xw m,.sl tl xl,.raw (.map (some mN)),.sl tk xk] S0 gs st' S.1 S.2.1 us/\RdS links hs S/\own st' tq S.2.2.length 1 S0/\fr 16=.iv (.sl tq (i32I S.2.2))) /\
     fr 1=.iv (.cptr (ptr rb))/\fr 2=.iv (slG gU lines.length)/\fr 3=.iv (.cptr (slG gW lines.length))/\fr 14=.iv (.fn (.func 79) [] [.cptr (slG gW lines.length),.cptr (ptr rb)])/\fr 15=.iv (.raw (.int .i64 (H:Int))) /\
     fr 131=.iv (.sl tn (i32I now))/\fr 132=.iv (.raw (.int .i64 now.length))/\fr 133=.iv (.raw (.int .i64 (a:Int)))/\ds=[]) ?_ ?_ ?_
    ·simp only[go_sem,zE];exact⟨⟨⟨true,.nil,0⟩,_,rfl,hP,⟨Nat.add_zero _,hR.wd⟩,own.nil ..,rfl⟩,f1,f2,f3,f14,f15,rfl⟩
    ·rintro a fr st4 _ ha ⟨⟨tq,S,hSe,hP,hRd,hown,f16⟩,f1,f2,f3,f14,f15,f131,f132,f133,rfl⟩;obtain⟨i,hi⟩:=yQ1 ha;have hiL:i<lines.length:=by
      have:=(lGs ((hR.nw i).1 (lMg hi))).1;rw[hR.len,hll] at this;exact this
     obtain⟨cells,c1,c2,c3,c4⟩:=hP.usr.ex;obtain⟨lu,hlu⟩:=yQ1 (l:=us) (k:=i) (by rw[hP.ul];exact hiL);obtain⟨tu,yu,d1,d2,d3⟩:=c3 i lu hlu;have hua:usAt us i=lu:=by unfold usAt;rw[hlu];rfl
     have hyul:=d2.1;have hyb:yu.length<=32000000*20000:=by
      have h1:=hU.len hlu;have h2:=wJa (links:=links) λl' hl'=>⟨hLall l' hl',λk' hk'=>(hA.lk hS hl' hk').2.1⟩
      have h3:links.length<=20000:=by omega
      rw[hyul];exact Nat.le_trans h1 (Nat.le_trans h2 (Nat.mul_le_mul_left _ h3))
     simp only[go_sem,zE,f2,f131,f132,f133,lt_i ha,yQ4 htn,iNn,xWi hi,yUm,c1,d1,hiL,fits,IV.one,Nat.mul_one,Nat.zero_add];intro _;refine LoopC.ctr yu.length (λb fr st' ds=>(∃tq S,S=((now.take a).flatMap (usAt us)++lu.take b).foldl (yJ9 H) (hs,ws,[])/\PS gU gW gH rb lines.length [spI ca tw xw m,.sl tl xl,.raw (.map (some mN)),.sl tk xk] S0 gs st' S.1 S.2.1 us/\RdS links hs S/\own st' tq S.2.2.length 1 S0/\fr 16=.iv (.sl tq (i32I S.2.2))) /\
      fr 1=.iv (.cptr (ptr rb))/\fr 2=.iv (slG gU lines.length)/\fr 3=.iv (.cptr (slG gW lines.length))/\fr 14=.iv (.fn (.func 79) [] [.cptr (slG gW lines.length),.cptr (ptr rb)])/\fr 15=.iv (.raw (.int .i64 (H:Int))) /\
      fr 131=.iv (.sl tn (i32I now))/\fr 132=.iv (.raw (.int .i64 now.length))/\fr 133=.iv (.raw (.int .i64 (a:Int)))/\fr 140=.iv (.sl tu yu)/\fr 141=.iv (.raw (.int .i64 yu.length))/\fr 142=.iv (.raw (.int .i64 (b:Int)))/\ds=[]) ?_ ?_ ?_
     ·simp only[go_sem,zE];exact⟨⟨tq,S,hSe,hP,hRd,hown,f16⟩,f1,f2,f3,f14,f15,f131,f132,f133,rfl⟩
     ·rintro b fr st5 _ hb ⟨⟨tq,S,hSe,hP,hRd,hown,f16⟩,f1,f2,f3,f14,f15,f131,f132,f133,f140,f141,f142,rfl⟩;obtain⟨u,hu⟩:=yQ1 (l:=lu) (k:=b) (by rw[<- hyul];exact hb);obtain⟨yy,hyy,hyu⟩:=d2.2 b u hu;have hlk:lkAt links u≠[]:=λe=>by
       have h1:=hus i u;rw[hua,e] at h1;have h3:0<lu.count u:=List.count_pos_iff.2 (lMg hu);rw[h1] at h3;simp at h3
      obtain⟨x,hx⟩:=hRd.2 u hlk;obtain⟨w,hw,hwx⟩:∃w,S.2.1[u.1]?=some w/\w[u.2]?=some x:=by
       unfold atW at hx;cases hw:S.2.1[u.1]? with
       | none=>rw[hw] at hx;simp at hx
       | some w=>rw[hw] at hx;exact⟨w,rfl,hx⟩
      have hgn:S.2.1.length=lines.length:=by rw[<- hP.mem.gll,hgsn]
      obtain⟨h,hh⟩:=yQ1 (l:=S.1) (k:=u.1) (by rw[hP.mem.hl];have:=(lGs hw).1;omega);have hco:=wWo gl gU gW gH rb lines.length _ _ _ _ S0 gs S.1 S.2.1 us u st5 hP w hw x hwx h hh;rw[hyu] at hyy;have hstep:yJ9 H S u=((now.take a).flatMap (usAt us)++lu.take (b+1)).foldl (yJ9 H) (hs,ws,[]):=by
       rw[yQ8 hu,<- List.append_assoc,List.foldl_append,<- hSe];rfl
      have hRd':=hRd.step (H:=H) (by omega) u;have hat:atW (decW S.2.1 u) u=some ((x+255)%256):=by rw[zZf,if_pos rfl,hx];rfl
      have huL:u.1<lines.length:=by rw[<- hP.mem.hl];exact (lGs hh).1
      simp only[go_sem,zE,zB,zA,zL,f14,f140,f141,f142,lt_i hb,yQ4 d3.es,iNn,hyy,fits,IV.one];refine hco.mono ?_;rintro _ st6 ⟨rfl,hP6,hfr6⟩;have hown6:own st6 tq S.2.2.length 1 S0:=hown.mono λg' hg' _=>hfr6 _ _ _ hg';have hql:S.2.2.length<=20000:=by
       have h4:=hRd.1;have h5:=List.count_le_length (a:=0) (l:=hs);have h6:=hR.len;omega
      by_cases hcc:(x+255)%256=0/\h=0
      ·have hT:yJ9 H S u=(S.1.set u.1 H,decW S.2.1 u,S.2.2++[u.1]):=by
        unfold yJ9;rw[if_pos ⟨by rw[hat,hcc.1],by rw[hh,hcc.2]⟩]
       rw[hT] at hstep hRd';have hht:=hP6.mem.hts;have hrb6:=hP6.mem.rbx;simp only[List.cons_append,List.nil_append] at hrb6;simp only[go_sem,zE,zA,zL,dEt hcc,f1,f15,f16,hrb6,hht,yUm,fits,IV.one,Nat.mul_one,Nat.zero_add,iNn,huL,yQ3];have hset:List.take u.1 (yQj S.1)++[.raw (.int .i64 (H:Int))]++List.drop (u.1+1) (yQj S.1)=yQj (S.1.set u.1 H):=by
        rw[<- xW8,<- yKn (by rw[yQt,hP6.mem.hl];exact huL)];rfl
       rw[if_pos (by rw[yQt,hP6.mem.hl];omega),hset];have hP7:=hP6.setH u.1 H;have hown7:own (st6.put gH (some (.box (yQj (S.1.set u.1 H))))) tq S.2.2.length 1 S0:=hown6.mono λg' hg' _=>(yVx hht hg').trans hg';generalize st6.put gH (some (.box (yQj (S.1.set u.1 H))))=st7 at hP7 hown7 ⊢;refine zU0 hown7 (zQ8 _) hP7.base rfl (by simp[fits,IV.one]) (by simp only;omega) (by omega) λtq' st8 w1 w2 w3 w4=>?_;simp only[go_sem,zE,f1,f2,f3,f14,f15,f131,f132,f133,f140,f141,f142,yQd hb (show yu.length<=281474976710656 by omega)];exact⟨tq',_,hstep,hP7.far hown7 w2 w3,hRd',by rw[lLa];exact w1,by simp[i32I]⟩
      ·have hF:yJ9 H S u=(S.1,decW S.2.1 u,S.2.2):=by
        unfold yJ9;rw[if_neg λe=>hcc ⟨by have:=e.1;rw[hat] at this;exact Option.some.inj this,by have:=e.2;rw[hh] at this;exact Option.some.inj this⟩]
       rw[hF] at hstep hRd';simp only[go_sem,zE,dEf hcc,f1,f2,f3,f14,f15,f16,f131,f132,f133,f140,f141,f142,yQd hb (show yu.length<=281474976710656 by omega)];exact⟨tq,_,hstep,hP6,hRd',hown6,rfl⟩
     ·rintro fr st5 _ ⟨⟨tq,S,hSe,hP,hRd,hown,f16⟩,f1,f2,f3,f14,f15,f131,f132,f133,f140,f141,f142,rfl⟩;rw[hyul,lTl] at hSe;have hall:(now.take a).flatMap (usAt us)++lu=(now.take (a+1)).flatMap (usAt us):=by rw[yQ8 hi,List.flatMap_append,List.flatMap_singleton,hua]
      rw[hall] at hSe;simp only[go_sem,zE,f1,f2,f3,f14,f15,f131,f132,f133,f141,f142,yQl (nLi _),yQd ha (show now.length<=281474976710656 by omega)];exact⟨tq,S,hSe,hP,hRd,hown,f16⟩
    ·rintro fr st4 _ ⟨⟨tq,S,hSe,hP,hRd,hown,f16⟩,f1,f2,f3,f14,f15,f131,f132,f133,rfl⟩;rw[lTl] at hSe;have hnx:=hR.next hH2 hus h2 hin;rw[<- hSe] at hnx;have hc:=hRd.1;have hH20:H<=20002:=by omega
     simp only[go_sem,zE,f1,f2,f3,f14,f15,f16,f132,f133,yQl (nLi _)];refine⟨2*S.1.count 0+(if S.2.2=[] then 0 else 1),?_,H+1,S.1,S.2.1,tq,S.2.2,rfl,by omega,?_,hP,hnx,hown.es,rfl,by rw[yQd (Nat.lt_succ_self H) (by omega)]⟩
     ·by_cases h0:S.2.2=[]
      ·rw[h0,List.length_nil] at hc;rw[if_pos h0];omega
      ·have:=List.length_pos_iff.2 h0;rw[if_neg h0];omega
     ·by_cases h0:S.2.2=[]
      ·rw[h0,List.length_nil] at hc;rw[if_pos h0];omega
      ·have:=List.length_pos_iff.2 h0;rw[if_neg h0];omega
def BadR (ca:Nat)(s:Sq)(e:Nat):Prop:=(¬ (ca=1\/ca=2)/\e=2)\/((ca=1\/ca=2)/\yQv ca s=false/\e=190)\/((ca=1\/ca=2)/\yQv ca s=true/\zZi (calJ ca) (nf (s.l,s.r)) e)
theorem BadR.ne {ca:Nat}{s:Sq}{e:Nat}(h:BadR ca s e):e≠0:=by
 rcases h with⟨_,rfl⟩|⟨_,_,rfl⟩|⟨_,_,h|h⟩
 ·decide
 ·decide
 ·rw[h.1];decide
 ·rw[h.1];decide
theorem ExplR.split {ca:Nat}{s:Sq}{st st':ISt}{r:IV}(h:ExplR ca s st r st'):(∃e,BadR ca s e/\r=.tup [.raw (.pointer none),.raw (.int .i64 (e:Int))]/\st'=st) \/
  ((ca=1\/ca=2)/\yQv ca s=true/\∃m tw xw rb mN lines links,okEs tw 4/\IsFms (spW s) xw/\r=.tup [ptr rb,.raw (.int .i64 0)]/\RS ca m (spW s) tw xw rb mN st st' lines links/\ExS ca (spW s) (nf (s.l,s.r)) lines links/\links.length=lines.length):=by
 rcases h with⟨hc,h1,h2⟩|⟨hc,hv,h1,h2⟩|⟨hc,hv,⟨e,h1,h2,h3⟩|h⟩
 ·exact .inl ⟨2,.inl ⟨hc,rfl⟩,h1,h2⟩
 ·exact .inl ⟨190,.inr (.inl ⟨hc,hv,rfl⟩),h1,h2⟩
 ·exact .inl ⟨e,.inr (.inr ⟨hc,hv,h1⟩),h2,h3⟩
 ·exact .inr ⟨hc,hv,h⟩
theorem wW4 (G:Gl gl)(T:Gt gl)(ca:Nat)(s:Sq)(x:IV)(hx:IsSq s x)(hs:yJm s)(st:ISt):ICall prog gl 28 [.raw (.int .u8 (ca:Int)),x] st (λr st'=>st'=st /\
  ((∃e,BadR ca s e/\r=.tup [.raw (.int .i64 0),.raw (.int .i64 (e:Int))])\/((ca=1\/ca=2)/\yQv ca s=true/\(∃K:List Sn,ReachOk (calJ ca) (nf (s.l,s.r)) K)/\r=.tup [.raw (.int .i64 (hF (calJ ca) (s.l,s.r):Int)),.raw (.int .i64 0)]))):=by
 have he:=wJ7 gl G T ca s x hx hs;obtain⟨t1,x1,t2,x2,rfl,e1,i1,e2,i2⟩:=hx;refine iI func28 ?_;simp only[go_sem,zE,zA,zL,reduceCtorEq];refine (he _).mono ?_;rintro r st1 hr;rcases hr.split with⟨e,hb,rfl,rfl⟩|⟨hc,hv,m,tw,xw,rb,mN,lines,links,htw,hxw,rfl,hR,hE,hl⟩
 ·have h0:decide ((e:Int)=0)=false:=dEf (by have:=hb.ne;omega);simp only[go_sem,zE,h0];exact yQ0 ⟨rfl,.inl ⟨e,hb,rfl⟩⟩
 ·obtain⟨hS,_,hWs,hin⟩:=yG2 hc hv;obtain⟨tl,xl,tk,xk,hrb,hxl,hol,hxk,hok⟩:=hR.ex;have hA:=hE.all hl;have hse:=wV4 gl ca m (spW s) hS tw xw htw hxw hWs lines links hA hE.len tl tk xl xk mN rb hxl hxk hol.es hok.es st st1 hrb hR.off.1 hR.base;simp only[go_sem,zE,zA,decide_true];refine hse.mono ?_;rintro _ st2 ⟨rfl,gH,hs2,hrb2,hgH,hhl,hlst,hsub⟩;obtain⟨ln,hln,hnf⟩:=hE.start;have h0l:=(lGs hln).1;obtain⟨h,hh⟩:=yQ1 (l:=hs2) (k:=0) (by omega);have hF0:=hA.hF hS hln (hlst 0 h hh);rw[hnf,vKn] at hF0;simp only[go_sem,zE,hrb2,hgH,fits,h0l,yXu hh,Nat.zero_mul,Nat.add_zero,show ((0:Int)<=0)=True from eq_true (by decide),show Int.toNat 0=0 from rfl,IV.one];rw[<- hF0];exact⟨st,hsub,rfl,.inr ⟨hc,hv,⟨_,hE.reach hS hR.nd (Nat.le_of_eq hl.symm)⟩,rfl⟩⟩
theorem vWv (s:Sn):ClF (nf s).1 (nf s).2↔ClF s.1 s.2:=by
 unfold ClF nf;simp only[yWf]
theorem wWu (G:Gl gl)(T:Gt gl)(ca:Nat)(s:Sq)(x:IV)(hx:IsSq s x)(hs:yJm s)(st:ISt):ICall prog gl 80 [.raw (.int .u8 (ca:Int)),x] st (λr st'=>st'=st /\
  ((¬ (ca=1\/ca=2)/\r=.tup [.raw (.bool false),.raw (.int .i64 2)])\/((ca=1\/ca=2)/\yQv ca s=false/\r=.tup [.raw (.bool false),.raw (.int .i64 190)]) \/
   ((ca=1\/ca=2)/\yQv ca s=true/\∃b:Bool,(b=true↔ClF s.l s.r)/\r=.tup [.raw (.bool b),.raw (.int .i64 0)]))):=by
 have hb:=xK1 gl G ca s x hx hs;have hx0:=hx;obtain⟨t1,x1,t2,x2,rfl,e1,i1,e2,i2⟩:=hx;refine iI func80 ?_;simp only[go_sem,zE,zA,zL,reduceCtorEq];refine (hb _).mono ?_;rintro _ st1 (⟨hc,rfl,rfl⟩|⟨hc,hv,rfl,rfl⟩|⟨hc,hv,m,tw,xw,hm,htw,hxw,rfl,rfl⟩)
 ·simp only[go_sem,zE,show decide ((2:Int)=0)=false from rfl];exact yQ0 ⟨rfl,.inl ⟨hc,rfl⟩⟩
 ·simp only[go_sem,zE,show decide ((190:Int)=0)=false from rfl];exact yQ0 ⟨rfl,.inr (.inl ⟨hc,hv,rfl⟩)⟩
 ·obtain⟨hS,_,hWs,hin⟩:=yG2 hc hv;have hfit:=zQp hv;have hln:=zG3 hin;simp only[go_sem,zE,zA,zL,decide_true];refine (xVw gl T ca m (spW s) tw xw htw hxw hS.srt (Nat.le_trans hWs (by omega)) s _ hx0 ⟨by omega,by omega⟩ hin _).mono ?_;rintro z st1 ⟨hz,rfl⟩;have hax:=λst=>xK2 gl ca m (spW s) hS tw xw htw hxw _ hln z hz st;obtain⟨ta,tb,rfl,ea,eb⟩:=hz;simp only[go_sem,zE,zA];refine (hax _).mono ?_;rintro _ st1 ⟨⟨zf,rfl,hzf⟩,rfl⟩;obtain⟨y1,y2,y3,y4,y5,y6,rfl⟩:=hzf.agg;simp only[go_sem,zE,zA,zL];refine⟨st,yQh hm,rfl,.inr (.inr ⟨hc,hv,_,?_,rfl⟩)⟩;rw[wJr hln.1,zZw hS.srt hln,zXh hS.srt hin];exact vWv (s.l,s.r)
theorem xWs {W:List Fm}{l:List Nat}{k i:Nat}{f:Fm}(h:l[k]?=some i)(hf:W[i]?=some f):fmW W (l.take (k+1))=fmW W (l.take k)++[f]:=by
 rw[yQ8 h];unfold fmW;rw[List.filterMap_append];simp[hf]
theorem uX4 (ca m:Nat)(W:List Fm)(hS:SpOk ca W)(tw:Tag)(xw:List IV)(htw:okEs tw 4)(hxw:IsFms W xw)(ln:Ln)(hln:LnOk W ln)(x:IV)(hx:IsLn ln x)(st:ISt) :
  ICall prog gl 104 [spI ca tw xw m,x] st (λr st'=>IsSq ⟨fmW W ln.1,fmW W ln.2⟩ r/\st'=st):=by
 obtain⟨ta,tb,rfl,ea,eb⟩:=hx;have hl1:=yYq hln.1.1 hln.1.2;have hl2:=yYq hln.2.1 hln.2.2;have hWl:=hS.len;refine iI func104 ?_;simp only[go_sem,zE];intro _;refine LoopC.ctr (yQj ln.1).length (λk fr st' ds=>(∃t y,fr 5=.box [.sl t y,.sl ⟨true,.nil,0⟩ []]/\own st' t k 4 st/\subSt st st'/\IsFms (fmW W (ln.1.take k)) y/\y.length=k)/\fr 0=.iv (spI ca tw xw m)/\fr 3=.box [.sl ta (yQj ln.1),.sl tb (yQj ln.2)]/\fr 4=.box [.sl ⟨true,.nil,0⟩ [],.sl ⟨true,.nil,0⟩ []] /\
  fr 11=.iv (.sl ta (yQj ln.1))/\fr 12=.iv (.raw (.int .i64 (yQj ln.1).length))/\fr 13=.iv (.raw (.int .i64 (k:Int)))/\ds=[]) ?_ ?_ ?_
 ·simp only[go_sem,zE,reduceCtorEq];exact⟨⟨_,_,rfl,own.nil ..,subSt.refl _,rfl,rfl⟩,rfl⟩
 ·rintro k fr st1 _ hlt ⟨⟨t1,y1,hf5,hown,hsub,hy,hyl⟩,f0,f3,f4,fl,fn,fk,rfl⟩;rw[yQt] at hlt;obtain⟨i,hi⟩:=yQ1 hlt;have hil:=hln.1.2 i (lMg hi);obtain⟨f,hf⟩:=yQ1 hil;obtain⟨z,hz,hfz⟩:=hxw.get hf;have hcp:=λst=>yWh gl f z hfz (Nat.le_trans (hS.size (lMg hf)) (by omega)) st;have hxl2:i<xw.length:=by rw[hxw.len];exact hil
  cases f with
  | mk og ng ug sg =>
  obtain⟨tg1,xg1,tg2,xg2,rfl,hgg⟩:=hfz.mk;simp only[go_sem,zE,zB,zA,reduceCtorEq,hf5,f0,fl,fn,fk,lt_i (show k<(yQj ln.1).length by rw[yQt];exact hlt),yQ4 ea,yQ4 htw,iNn,yXu hi,hz,fits,IV.one];refine (hcp _).mono ?_;rintro r st1 ⟨hr,rfl⟩;obtain⟨o1,n1,t2,x2,t3,x3,rfl⟩:=IsFmD.aggs hr;simp only[go_sem,zE,zA,zM,zL,fits,yQ3];refine yZf hown hyl hsub rfl (by simp[fits,IV.one]) (by simp only;omega) (by omega) λt1' st2 w1 w2 w3=>?_;simp only[go_sem,zE,zA,zL,reduceCtorEq,f0,f3,f4,fl,fn,fk,hf5,yQd (show k<(yQj ln.1).length by rw[yQt];exact hlt) (show (yQj ln.1).length<=281474976710656 by rw[yQt];omega)];exact⟨t1',_,rfl,w1,w2,by rw[xWs hi hf];exact hy.append (.one hr.1),by rw[lLa,hyl];rfl⟩
 ·rintro fr st0 _ ⟨⟨t0,y0,f5,hown0,hsub0,hy0,hyl0⟩,f0,f3,f4,fl,fn,fk,rfl⟩;rw[yQt,lTl] at hy0;have he0:=hown0.es;simp only[go_sem,zE,f3,fn,fk,yQl (nLi _)];intro _;refine LoopC.ctr (yQj ln.2).length (λk fr st' ds=>(∃t y,fr 5=.box [.sl t0 y0,.sl t y]/\own st' t k 4 st/\subSt st st'/\IsFms (fmW W (ln.2.take k)) y/\y.length=k)/\fr 0=.iv (spI ca tw xw m)/\fr 3=.box [.sl ta (yQj ln.1),.sl tb (yQj ln.2)]/\fr 4=.box [.sl ⟨true,.nil,0⟩ [],.sl ⟨true,.nil,0⟩ []] /\
   fr 32=.iv (.sl tb (yQj ln.2))/\fr 33=.iv (.raw (.int .i64 (yQj ln.2).length))/\fr 34=.iv (.raw (.int .i64 (k:Int)))/\ds=[]) ?_ ?_ ?_
  ·simp only[go_sem,zE,reduceCtorEq,f0,f3,f4,f5];exact⟨⟨_,_,rfl,own.nil ..,hsub0,rfl,rfl⟩,rfl⟩
  ·rintro k fr st1 _ hlt ⟨⟨t1,y1,hf5,hown,hsub,hy,hyl⟩,f0,f3,f4,fl,fn,fk,rfl⟩;rw[yQt] at hlt;obtain⟨i,hi⟩:=yQ1 hlt;have hil:=hln.2.2 i (lMg hi);obtain⟨f,hf⟩:=yQ1 hil;obtain⟨z,hz,hfz⟩:=hxw.get hf;have hcp:=λst=>yWh gl f z hfz (Nat.le_trans (hS.size (lMg hf)) (by omega)) st;have hxl2:i<xw.length:=by rw[hxw.len];exact hil
   cases f with
   | mk og ng ug sg =>
   obtain⟨tg1,xg1,tg2,xg2,rfl,hgg⟩:=hfz.mk;simp only[go_sem,zE,zB,zA,reduceCtorEq,hf5,f0,fl,fn,fk,lt_i (show k<(yQj ln.2).length by rw[yQt];exact hlt),yQ4 eb,yQ4 htw,iNn,yXu hi,hz,fits,IV.one];refine (hcp _).mono ?_;rintro r st1 ⟨hr,rfl⟩;obtain⟨o1,n1,t2,x2,t3,x3,rfl⟩:=IsFmD.aggs hr;simp only[go_sem,zE,zA,zM,zL,fits,yQ3];refine yZf hown hyl hsub rfl (by simp[fits,IV.one]) (by simp only;omega) (by omega) λt1' st2 w1 w2 w3=>?_;simp only[go_sem,zE,zA,zL,reduceCtorEq,f0,f3,f4,fl,fn,fk,hf5,yQd (show k<(yQj ln.2).length by rw[yQt];exact hlt) (show (yQj ln.2).length<=281474976710656 by rw[yQt];omega)];exact⟨t1',_,rfl,w1,w2,by rw[xWs hi hf];exact hy.append (.one hr.1),by rw[lLa,hyl];rfl⟩
  ·rintro fr st1 _ ⟨⟨t1,y1,f5,hown,hsub,hy,hyl⟩,f0,f3,f4,fl,fn,fk,rfl⟩;rw[yQt,lTl] at hy;have he1:=hown.es;simp only[go_sem,zE,zA,zL,f4,f5,fn,fk,yQl (nLi _)];exact⟨st,hsub,⟨t0,y0,t1,y1,rfl,he0,hy0,he1,hy⟩,rfl⟩
def yWb (v:Nat×Fm×List Sn)(x:IV):Prop:=∃o n t1 x1 t2 x2 t3 x3,x=.agg [.raw (.int .u8 (v.1:Int)),.raw (.int .u8 o),.raw (.string n),.sl t1 x1,.sl t2 x2,.sl t3 x3]/\IsFm v.2.1 (.agg [.raw (.int .u8 o),.raw (.string n),.sl t1 x1,.sl t2 x2])/\okEs t3 2/\AllR (λp y=>IsSq ⟨p.1,p.2⟩ y) v.2.2 x3
theorem wZm (G:Gl gl)(T:Gt gl)(ca:Nat)(s:Sq)(x:IV)(hx:IsSq s x)(hs:yJm s)(st:ISt):ICall prog gl 82 [.raw (.int .u8 (ca:Int)),x] st (λr st'=>st'=st /\
  ((¬ (ca=1\/ca=2)/\r=.tup [.sl ⟨true,.nil,0⟩ [],.raw (.int .i64 2)])\/((ca=1\/ca=2)/\yQv ca s=false/\r=.tup [.sl ⟨true,.nil,0⟩ [],.raw (.int .i64 190)]) \/
   ((ca=1\/ca=2)/\yQv ca s=true/\((zG2 (calJ ca) (nf (s.l,s.r))/\r=.tup [.sl ⟨true,.nil,0⟩ [],.raw (.int .i64 5)])\/(¬ zG2 (calJ ca) (nf (s.l,s.r))/\∃t ys,okEs t 6/\AllR yWb (mvF (calJ ca) (nf (s.l,s.r))) ys/\r=.tup [.sl t ys,.raw (.int .i64 0)]))))):=by
 have hb:=xK1 gl G ca s x hx hs;have hx0:=hx;obtain⟨t1,x1,t2,x2,rfl,e1,i1,e2,i2⟩:=hx;refine ICall.introF (t:=6) (n:=2) (c:=cf prog gl [4,5,6,8,38] [(10,[0,1,2,3,4,6,7,12,5,8,9,10,11,13])] [3]) func82 rfl (by show _<=66;simp) (by show _<66;simp) (by kernel_rfl) ?_;simp only[go_sem,zE,zA,reduceCtorEq,fits];refine λb4=>yQ9 λh4=>λb5=>yQ9 λh5=>?_;have n54:b5≠b4:=λe=>by rw[e,ISt.put_same] at h5;cases h5
 rw[yQ7 n54] at h5;have sub0:subSt st ((st.put b4 (some (.box [.sl ⟨true,.nil,0⟩ []]))).put b5 (some (.box [.raw (.int .i64 0)]))):=yQa (yQh h4) h5;refine (hb _).mono ?_;rintro _ st1 (⟨hc,rfl,rfl⟩|⟨hc,hv,rfl,rfl⟩|⟨hc,hv,m,tw,xw,hm,htw,hxw,rfl,rfl⟩)
 ·simp only[go_sem,zE,zL];refine λb6=>yQ9 λh6=>?_;have n6:b6≠b5:=λe=>by rw[e,ISt.put_same] at h6;cases h6
  rw[yQ7 n6] at h6;have n64:b6≠b4:=λe=>by rw[e,ISt.put_same] at h6;cases h6
  refine⟨b6,.raw (.pointer none),by simp only[go_sem,zE],ISt.put_same ..,?_⟩;rw[yJy (by rw[yQ7 n6];exact h6)];simp only[go_sem,zE,zL,show decide ((2:Int)=0)=false from rfl,yQ7 n54.symm,yQ7 n54];exact⟨st,yQa (yQa sub0 h4) h5,rfl,.inl ⟨hc,rfl⟩⟩
 ·simp only[go_sem,zE,zL];refine λb6=>yQ9 λh6=>?_;have n6:b6≠b5:=λe=>by rw[e,ISt.put_same] at h6;cases h6
  rw[yQ7 n6] at h6;have n64:b6≠b4:=λe=>by rw[e,ISt.put_same] at h6;cases h6
  refine⟨b6,.raw (.pointer none),by simp only[go_sem,zE],ISt.put_same ..,?_⟩;rw[yJy (by rw[yQ7 n6];exact h6)];simp only[go_sem,zE,zL,show decide ((190:Int)=0)=false from rfl,yQ7 n54.symm,yQ7 n54];exact⟨st,yQa (yQa sub0 h4) h5,rfl,.inr (.inl ⟨hc,hv,rfl⟩)⟩
 ·obtain⟨hS,_,hWs,hin⟩:=yG2 hc hv;have hfit:=zQp hv;have hln:=zG3 hin;have hnf:=zXh hS.srt hin;simp only[go_sem,zE,zL];refine λb6=>yQ9 λh6=>?_;have n6m:b6≠m:=λe=>by rw[e,ISt.put_same] at h6;cases h6
  refine⟨b6,spI ca tw xw m,by simp only[go_sem,zE],ISt.put_same ..,?_⟩;rw[yJy h6,show age (spI ca tw xw m)=spI ca ⟨false,tw.cap,tw.es⟩ (ages xw) m by simp only[age,ages]];replace htw:okEs ⟨false,tw.cap,tw.es⟩ 4:=htw;replace hxw:=hxw.aged;generalize (⟨false,tw.cap,tw.es⟩:Tag)=tw at htw ⊢;generalize ages xw=xw at hxw ⊢;simp only[go_sem,zE,zA,decide_true];refine λb8=>yQ9 λh8=>?_;refine (xVw gl T ca m (spW s) tw xw htw hxw hS.srt (Nat.le_trans hWs (by omega)) s _ hx0 ⟨by omega,by omega⟩ hin _).mono ?_;rintro z st1 ⟨hz,rfl⟩;have hmc:=λst=>wZl gl m (spI ca tw xw m) z _ rfl _ hz st;have hit:=xVr gl G T ca m _ hS hWs tw xw htw hxw _ hln z hz;obtain⟨ta,tb,rfl,ea,eb⟩:=id hz;simp only[go_sem,zE,zA];refine (hmc _).mono ?_;rintro _ st1 ⟨rfl,rfl⟩;simp only[go_sem,reduceCtorEq];have hm5:m≠b5:=λe=>by rw[e,ISt.put_same] at hm;cases hm
  rw[yQ7 hm5] at hm;have hm4:m≠b4:=λe=>by rw[e,ISt.put_same] at hm;cases hm
  rw[yQ7 hm4] at hm;have h8m:b8≠m:=λe=>by rw[e,ISt.put_same] at h8;cases h8
  rw[yQ7 h8m] at h8;have h85:b8≠b5:=λe=>by rw[e,ISt.put_same] at h8;cases h8
  rw[yQ7 h85] at h8;have h84:b8≠b4:=λe=>by rw[e,ISt.put_same] at h8;cases h8
  rw[yQ7 h84] at h8;generalize hSt:((((st.put b4 (some (.box [.sl ⟨true,.nil,0⟩ []]))).put b5 (some (.box [.raw (.int .i64 0)]))).put m (some (.map .pl []))).put b8 (some (.box [.sl ⟨true,.nil,0⟩ []])))=sA;have hxw2:IsFms (setF (yZq (s.l++s.r))) xw:=hxw;generalize hW:setF (yZq (s.l++s.r))=W at *;generalize hln2:zG4 W (s.l,s.r)=ln at *
  let EI:Nat->ISt->Prop:=λk s'=>∃(vs:List Mv) (t8:Tag) (ys:List IV),(cutO (mvsN W (calJ ca) ln)).take k=vs.map some/\AllR yWb (vs.map (mvW W)) ys/\SpSt ca m W s'/\s' b4=some (.box [.sl ⟨true,.nil,0⟩ []])/\s' b5=some (.box [.raw (.int .i64 0)])/\s' b8=some (.box [.sl t8 ys])/\own s' t8 vs.length 6 st/\subSt st s'
  let ES:Exit->ISt->Prop:=λe s'=>e=.ret/\s' b4=some (.box [.sl ⟨true,.nil,0⟩ []])/\s' b5=some (.box [.raw (.int .i64 5)])/\none∈mvsN W (calJ ca) ln/\subSt st s'
  refine RangeU.intro (mvX W (calJ ca) ln) (cutO (mvsN W (calJ ca) ln)).length EI ES (SpUp ca m W) ?_ (by simp only[go_sem]) ?_ ?_ ?_ (hit.of λk s ⟨_,_,_,_,_,h,_⟩=>h) ?_ ?_
  ·rintro k s' m' kk es es' ⟨vs,t8,ys,q1,q2,⟨es0,q3,q3'⟩,q4,q5,q6,q7,q8⟩ hm' ⟨rfl,hu⟩;rw[q3] at hm';cases hm';have e4:b4≠m':=λe=>by rw[e,q3] at q4;cases q4
   have e5:b5≠m':=λe=>by rw[e,q3] at q5;cases q5
   have e8:b8≠m':=λe=>by rw[e,q3] at q6;cases q6
   exact⟨vs,t8,ys,q1,q2,⟨es',ISt.put_same ..,hu q3'⟩,by rw[yQ7 e4];exact q4,by rw[yQ7 e5];exact q5,by rw[yQ7 e8];exact q6,q7.mono λg hg _=>(by rw[yQ7 λe=>(by rw[e,q3] at hg;cases hg)];exact hg),yQa q8 hm⟩
  ·rintro k a ⟨o,_,ho⟩;cases o with
   | none=>rw[show a=_ from ho];rfl
   | some v=>obtain⟨x,rfl,_⟩:=ho;rfl
  ·exact⟨[],⟨true,.nil,0⟩,[],rfl,AllR.nil,⟨[],by rw[<- hSt,yQ7 h8m.symm,ISt.put_same],λp hp=>by cases hp⟩,by rw[<- hSt,yQ7 h84.symm,yQ7 hm4.symm,yQ7 n54.symm,ISt.put_same],
    by rw[<- hSt,yQ7 h85.symm,yQ7 hm5.symm,ISt.put_same],by rw[<- hSt,ISt.put_same],own.nil ..,by rw[<- hSt];exact yQa (yQa sub0 hm) h8⟩
  ·rintro k a s' ⟨o,hok',ho⟩ ⟨vs,t8,ys,q1,q2,q3,q4,q5,q6,q7,q8⟩;cases o with
   | none =>
    obtain rfl:a=_:=ho;have hnone:none∈mvsN W (calJ ca) ln:=by
     have h1:∀l:List (Option Mv),none∈cutO l->none∈l:=λl=>by
      induction l with
      | nil=>exact id
      | cons a l ih =>
       cases a with
       | none=>exact λ_=>.head _
       | some a =>
        intro h;simp only[cutO] at h;rcases List.mem_cons.1 h with h|h
        ·cases h
        ·exact .tail _ (ih h)
     exact h1 _ (lMg hok')
    simp only[go_sem,zE,zA,zL,show decide ((5:Int)=0)=false from rfl,q4,q5,yQ7 n54];exact⟨rfl,by rw[yQ7 n54.symm,ISt.put_same],ISt.put_same ..,hnone,yQa (yQa q8 h4) h5⟩
   | some v =>
    obtain⟨xv,rfl,tv,zv,rfl,htv,hzv⟩:=ho;have hvm:some v∈mvsN W (calJ ca) ln:=by
     have h1:∀l:List (Option Mv),some v∈cutO l->some v∈l:=λl=>by
      induction l with
      | nil=>exact id
      | cons a l ih =>
       cases a with
       | none=>intro h;simp[cutO] at h
       | some a =>
        intro h;simp only[cutO] at h;rcases List.mem_cons.1 h with h|h
        ·rw[h];exact .head _
        ·exact .tail _ (ih h)
     exact h1 _ (lMg hok')
    obtain⟨g1,g2,g3,g4⟩:=zXd hS hln hvm;obtain⟨f,hf⟩:=yQ1 g1;obtain⟨z,hz,hfz⟩:=hxw2.get hf;have hcp:=λst=>yWh gl f z hfz (Nat.le_trans (hS.size (lMg hf)) (by omega)) st;obtain⟨og,ng,ug,sg,rfl⟩:∃o n u s,f=.mk o n u s:=by cases f;exact⟨_,_,_,_,rfl⟩
    obtain⟨tg1,xg1,tg2,xg2,rfl,hgg⟩:=hfz.mk;simp only[go_sem,zE,zB,zA,zL,fits,decide_true,yQ4 htw,iNn,hz,IV.one];refine (hcp _).mono ?_;rintro r s2 ⟨hr,rfl⟩;obtain⟨o1,n1,t5,x5,t6,x6,rfl⟩:=IsFmD.aggs hr;simp only[go_sem,zE,zA,zL,fits];intro _;refine LoopC.ctr zv.length (λq fr st' ds=>(∃t3 x3,fr 11=.box [.raw (.int .u8 (v.1:Int)),.raw (.int .u8 o1),.raw (.string n1),.sl t5 x5,.sl t6 x6,.sl t3 x3]/\AllR (λp y=>IsSq ⟨p.1,p.2⟩ y) ((v.2.2.take q).map (lnW W)) x3/\own st' t3 q 2 st/\SpSt ca m W st'/\st' b4=some (.box [.sl ⟨true,.nil,0⟩ []])/\st' b5=some (.box [.raw (.int .i64 0)]) /\
     st' b8=some (.box [.sl t8 ys])/\own st' t8 vs.length 6 st/\subSt st st')/\fr 6=.iv (.cptr (spI ca tw xw m))/\fr 46=.iv (.sl tv zv)/\fr 47=.iv (.raw (.int .i64 zv.length))/\fr 48=.iv (.raw (.int .i64 (q:Int)))/\fr 4=.iv (ptr b4)/\fr 5=.iv (ptr b5)/\fr 8=.iv (ptr b8)/\ds=[]) ?_ ?_ ?_
    ·simp only[go_sem,zE];exact⟨⟨_,_,rfl,AllR.nil,own.nil ..,q3,q4,q5,q6,q7,q8⟩,rfl⟩
    ·rintro q fr s3 _ hq ⟨⟨t3,x3,f11,hal,hown3,q3,q4,q5,q6,q7,q8⟩,f6,f46,f47,f48,f4,f5,f8,rfl⟩;have hzl:=hzv.1;obtain⟨p,hp⟩:=yQ1 (l:=v.2.2) (k:=q) (by rw[<- hzl];exact hq);obtain⟨zq,hzq,hzl2⟩:=hzv.2 q p hp;obtain⟨g5,g6⟩:=g4 p (lMg hp);have hsq:=λst=>uX4 gl ca m W hS tw xw htw hxw2 p g5 zq hzl2 st;obtain⟨ta2,tb2,rfl,ea2,eb2⟩:=hzl2;simp only[go_sem,zE,zB,zA,zL,f11,f6,f46,f47,f48,lt_i hq,yQ4 htv,iNn,hzq,fits,IV.one];refine (hsq _).mono ?_;rintro _ s3 ⟨⟨t7,x7,t9,x9,rfl,e7,i7,e9,i9⟩,rfl⟩;have hx3l:x3.length=q:=by rw[hal.1,List.length_map,List.length_take];omega
     simp only[go_sem,zE,zA,zM,zL,fits,yQ3];refine yZf hown3 hx3l q8 rfl (by simp[fits,IV.one]) (by simp only;omega) (by omega) λt3' s4 w1 w2 w3=>?_;obtain⟨es0,u1,u2⟩:=q3;simp only[go_sem,zE,zA,zL,f11,f6,f46,f47,f48,f4,f5,f8,yQd hq (show zv.length<=281474976710656 by omega)];refine⟨t3',_,rfl,?_,w1,⟨es0,w3 _ _ u1 (λn h=>by cases h),u2⟩,w3 _ _ q4 (λn h=>by cases h),w3 _ _ q5 (λn h=>by cases h),w3 _ _ q6 (λn h=>by cases h),w3.own q7 (by decide),w2⟩;rw[yQ8 hp,List.map_append];exact hal.snoc ⟨t7,x7,t9,x9,rfl,e7,i7,e9,i9⟩
    ·rintro fr s3 _ ⟨⟨t3,x3,f11,hal,hown3,q3,q4,q5,q6,q7,q8⟩,f6,f46,f47,f48,f4,f5,f8,rfl⟩;have hzl:=hzv.1;rw[hzl,lTl] at hal;have hyl:ys.length=vs.length:=by rw[q2.1,List.length_map]
     have hvl:vs.length<=16000000:=by
      have h1:∀l:List (Option Mv),(cutO l).length<=l.length:=λl=>by
       induction l with
       | nil=>exact Nat.le_refl _
       | cons a l ih =>
        cases a with
        | none=>simp[cutO]
        | some a=>simp only[cutO,List.length_cons];omega
      have h2:=congrArg List.length q1;rw[List.length_take,List.length_map] at h2;have h3:=h1 (mvsN W (calJ ca) ln);have h4:=zG0 hS hWs hln;omega
     simp only[go_sem,zE,zA,zM,zL,f11,f47,f48,f8,yQl (nLi _),q6,fits,yQ3];refine yZf q7 hyl q8 rfl (by simp[fits,IV.one]) (by simp only;omega) (by omega) λt8' s4 w1 w2 w3=>?_;have hb8:=w3 _ _ q6 (λn h=>by cases h);simp only[go_sem,zE,zL,f8,hb8];obtain⟨es0,u1,u2⟩:=q3;refine⟨vs++[v],t8',_,?_,?_,⟨es0,by rw[yQ7 h8m.symm];exact w3 _ _ u1 (λn h=>by cases h),u2⟩,by rw[yQ7 h84.symm];exact w3 _ _ q4 (λn h=>by cases h),by rw[yQ7 h85.symm];exact w3 _ _ q5 (λn h=>by cases h),ISt.put_same ..,?_,yQa w2 h8⟩
     ·rw[yQ8 hok',q1,List.map_append];rfl
     ·rw[List.map_append];refine q2.snoc ⟨o1,n1,t5,x5,t6,x6,t3,x3,rfl,?_,hown3.es,hal⟩;show IsFm ((W[v.2.1]?).getD fm0) _;rw[hf];exact hr.1
     ·rw[lLa];refine w1.mono λg hg _=>?_;rw[yQ7 λe=>by rw[e,hb8] at hg;cases hg];exact hg
  ·rintro s' rr ⟨vs,t8,ys,q1,q2,q3,q4,q5,q6,q7,q8⟩;rw[lTl] at q1;have hall:mvsN W (calJ ca) ln=vs.map some:=by
    have h1:∀l:List (Option Mv),none ∉ cutO l->cutO l=l:=λl=>by
     induction l with
     | nil=>intro _;rfl
     | cons a l ih =>
      intro h;cases a with
      | none=>exact absurd (.head _) h
      | some a=>simp only[cutO] at h ⊢;rw[ih λh'=>h (.tail _ h')]
    rw[<- q1,h1];rw[q1];simp
   have hmF:=xXx hS hln hall;have hnl:=zXc hS hln (j:=calJ ca);rw[hnf] at hmF hnl;simp only[go_sem,zE,zL,q4,q5,q6,yQ7 n54,yQ7 n54.symm];refine⟨st,yQa (yQa q8 h4) h5,rfl,.inr (.inr ⟨hc,hv,.inr ⟨λh=>?_,t8,ys,q7.es,by rw[hmF];exact q2,rfl⟩⟩)⟩;have:=hnl.2 h;rw[hall] at this;simp at this
  ·rintro e s' rr ⟨rfl,w1,w2,w3,w4⟩;simp only[go_sem,zE,w1,w2];have hnl:=(zXc hS hln (j:=calJ ca)).1 w3;rw[hnf] at hnl;exact⟨st,w4,rfl,.inr (.inr ⟨hc,hv,.inl ⟨hnl,rfl⟩⟩)⟩
end Go.Proofs.Tryz
namespace Go.Proofs.Tryz
open Go Go.Iv
noncomputable def insC (a:Fm):List Fm->List Fm
 | []=>[a]
 | b::l=>if yZa a b<0 then a::b::l else if yZa a b=0 then b::l else b::insC a l
noncomputable def setC:List Fm->List Fm
 | []=>[]
 | a::l=>insC a (setC l)
theorem zGd {a x:Fm}:∀ {l:List Fm},x∈insC a l↔x=a\/x∈l
 | []=>by simp[insC]
 | b::l=>by
  unfold insC;split
  ·simp
  ·split
   ·rename_i h;rw[(yJ1 a b).1 h];simp
   ·rw[List.mem_cons,zGd,List.mem_cons];grind
theorem xWb {a:Fm}:∀ {l:List Fm},l.Pairwise (λx y=>yZa x y<0)->(insC a l).Pairwise (λx y=>yZa x y<0)
 | [],_=>by simp[insC]
 | b::l,h=>by
  obtain⟨h1,h2⟩:=List.pairwise_cons.1 h;unfold insC;split
  ·rename_i hab;refine List.pairwise_cons.2 ⟨λx hx=>?_,h⟩;rcases List.mem_cons.1 hx with rfl|hx
   ·exact hab
   ·exact yWt _ _ _ hab (h1 x hx)
  ·split
   ·exact h
   ·rename_i hn h0;refine List.pairwise_cons.2 ⟨λx hx=>?_,xWb h2⟩;rcases zGd.1 hx with rfl|hx
    ·have:=yW7 x b;omega
    ·exact h1 x hx
theorem wQo:∀l:List Fm,SetF l (setC l)
 | []=>⟨List.Pairwise.nil,λ_=>Iff.rfl⟩
 | a::l=>by
  obtain⟨h1,h2⟩:=wQo l;refine⟨xWb h1,λf=>?_⟩;show f∈insC a (setC l)↔_;rw[zGd,h2,List.mem_cons]
theorem wYj (l:List Fm):setF l=setC l:=yWg (wQo l)
noncomputable def nfC (s:Sn):Sn:=(setC s.1,setC s.2)
theorem nf_C (s:Sn):nf s=nfC s:=by unfold nf nfC;rw[wYj,wYj]
noncomputable def pmC (j:Bool)(s p:Sn):Sn:=nfC (s.1++p.1,rgt j s.2 p.2)
noncomputable def mvC (j:Bool)(s:Sn):List (List Sn):=(s.1.flatMap λf=>(addF j f false).map λt=>t.2.map (pmC j s))++s.2.flatMap λf=>(addF j f true).map λt=>t.2.map (pmC j s)
theorem vKc (j:Bool)(s:Sn):(mvF j s).map (λm=>m.2.2)=mvC j s:=by
 have key:∀(r:Bool) (l:List Fm),(l.flatMap (zVi j s r)).map (λm=>m.2.2)=l.flatMap λf=>(addF j f r).map λt=>t.2.map (pmC j s):=λr l=>by
  rw[List.map_flatMap];congr 1;funext f;unfold zVi;rw[List.map_map];refine List.map_congr_left λt _=>?_;refine List.map_congr_left λp _=>?_;exact nf_C _
 unfold mvF mvC;rw[List.map_append,key,key]
noncomputable def clC (s:Sn):Bool:=s.1.any λf=>s.2.any (λg=>decide (yZa f g=0)) || zVk f
theorem zKt (s:Sn):clC s=true↔ClF s.1 s.2:=by
 unfold clC ClF;simp only[List.any_eq_true,Bool.or_eq_true,dTe,yJ1];constructor
 ·rintro⟨f,hf,⟨g,hg,rfl⟩|h⟩
  ·exact .inl ⟨_,hf,hg⟩
  ·exact .inr ⟨f,hf,h⟩
 ·rintro (⟨f,h1,h2⟩|⟨f,h1,h2⟩)
  ·exact⟨f,h1,.inl ⟨f,h2,rfl⟩⟩
  ·exact⟨f,h1,.inr h2⟩
theorem xUd {j r:Bool}{f:Fm}{t:Nat×List Sn}(h:t∈addF j f r):∀p∈t.2,p.1.length<=2/\p.2.length<=2:=by
 unfold addF at h;split at h
 case h_5=>split at h<;>simp at h<;>(try rcases h with rfl|rfl)<;>(try subst h)<;>simp
 all_goals (first|(simp at h;subst h;simp)|(simp at h))
def at0 (l:List Nat)(i:Nat):Nat:=(l[i]?).getD 0
noncomputable def vV4:DecidableEq Fm:=λa b=>decidable_of_iff (yZa a b=0) (yJ1 a b)
def vWx (n:Nat)(cl:List Bool)(lk:List (List (List Nat)))(hs:List Nat):Bool :=
 (List.range n).all λi=>(decide (i=0) || (List.range i).any λk=>!((cl[k]?).getD true)&&((lk[k]?).getD []).any (·.contains i)) &&
  (if (cl[i]?).getD true=true then decide (at0 hs i=1) else
   (decide (at0 hs i=0) || ((lk[i]?).getD []).any λps=>ps.all λp=>decide (0<at0 hs p)&&decide (at0 hs p<at0 hs i)) &&
   (((lk[i]?).getD []).all λps=>(ps.all λp=>decide (p<n))&&((ps.any λp=>decide (at0 hs p=0)) || (decide (0<at0 hs i)&&ps.any λp=>decide (at0 hs i<=at0 hs p+1)))))
structure Cert (j:Bool)(K:List Sn)(cl:List Bool)(lk:List (List (List Nat)))(hs:List Nat):Prop where
 norm:K.map nfC=K
 nd:K.Nodup
 cls:K.map clC=cl
 mvs:K.map (λs=>if clC s=true then [] else mvC j s)=lk.map (·.map (·.map λn=>(K[n]?).getD ([],[])))
 num:vWx K.length cl lk hs=true
 short:(K.all λs=>decide (s.1.length<=60)&&decide (s.2.length<=60))=true
 len:K.length<=20000
section
variable {j:Bool}{K:List Sn}{cl:List Bool}{lk:List (List (List Nat))}{hs:List Nat}(h:Cert j K cl lk hs)
include h
theorem Cert.at_ {i:Nat}{s:Sn}(hi:K[i]?=some s):(cl[i]?).getD true=clC s/\(clC s=false->mvC j s=((lk[i]?).getD []).map (·.map λn=>(K[n]?).getD ([],[]))):=by
 have h1:cl[i]?=some (clC s):=by rw[<- h.cls,List.getElem?_map,hi];rfl
 have h2:=congrArg (λl=>l[i]?) h.mvs;simp only[List.getElem?_map,hi,Option.map_some] at h2;refine⟨by rw[h1];rfl,λhc=>?_⟩;rw[hc] at h2;simp only[bFt,if_false] at h2;cases hl:lk[i]? with
 | none=>rw[hl] at h2;cases h2
 | some l=>rw[hl] at h2;exact Option.some.inj h2
theorem Cert.num_ {i:Nat}(hi:i<K.length):(i=0\/∃k,k<i/\(cl[k]?).getD true=false/\∃ps∈(lk[k]?).getD [],i∈ps)/\((cl[i]?).getD true=true->at0 hs i=1) /\
  ((cl[i]?).getD true=false->(at0 hs i=0\/∃ps∈(lk[i]?).getD [],∀p∈ps,0<at0 hs p/\at0 hs p<at0 hs i)/\∀ps∈(lk[i]?).getD [],(∀p∈ps,p<K.length)/\((∃p∈ps,at0 hs p=0)\/(0<at0 hs i/\∃p∈ps,at0 hs i<=at0 hs p+1))):=by
 have:=List.all_eq_true.1 h.num i (List.mem_range.2 hi);rw[bAt] at this;obtain⟨h1,h2⟩:=this;refine⟨?_,λhc=>?_,λhc=>?_⟩
 ·simp only[Bool.or_eq_true,dTe,List.any_eq_true,List.mem_range,bAt,Bool.not_eq_true',List.contains_iff_mem] at h1;exact h1
 ·rw[if_pos hc] at h2;exact of_decide_eq_true h2
 ·rw[if_neg (by rw[hc];exact Bool.false_ne_true)] at h2;simp only[Bool.or_eq_true,dTe,List.any_eq_true,bAt,List.all_eq_true] at h2;exact h2
theorem Cert.mv {i:Nat}{s:Sn}(hi:K[i]?=some s)(hc:clC s=false)(P:List Sn->Prop):(∃m∈mvF j s,P m.2.2)↔∃ps∈(lk[i]?).getD [],P (ps.map λn=>(K[n]?).getD ([],[])):=by
 have h1:=(h.at_ hi).2 hc;rw[<- vKc] at h1;constructor
 ·rintro⟨m,hm,hp⟩;have:m.2.2∈(mvF j s).map (λm=>m.2.2):=List.mem_map_of_mem hm;rw[h1] at this;obtain⟨ps,h2,h3⟩:=List.mem_map.1 this;exact⟨ps,h2,h3▸hp⟩
 ·rintro⟨ps,h2,hp⟩;have:(ps.map λn=>(K[n]?).getD ([],[]))∈(mvF j s).map (λm=>m.2.2):=by rw[h1];exact List.mem_map_of_mem h2
  obtain⟨m,hm,he⟩:=List.mem_map.1 this;exact⟨m,hm,he▸hp⟩
theorem Cert.up:∀(x i:Nat)(s:Sn),K[i]?=some s->at0 hs i=x->0<x->HtS j x s:=by
 intro x
 induction x using Nat.strongRecOn with
 | ind x ih =>
  intro i s hi hx h0;have hlt:=(lGs hi).1;obtain⟨_,n1,n2⟩:=h.num_ hlt;obtain⟨y,rfl⟩:∃y,x=y+1:=⟨x-1,by omega⟩
  rw[zGh];cases hc:clC s with
  | true=>exact .inl ((zKt s).1 hc)
  | false =>
   refine .inr ((h.mv hi hc λl=>∀p∈l,HtS j y p).2 ?_);obtain⟨n3,n4⟩:=n2 (by rw[(h.at_ hi).1];exact hc);rcases n3 with n3|⟨ps,h1,h2⟩
   ·omega
   ·refine⟨ps,h1,λp hp=>?_⟩;obtain⟨n,hn,rfl⟩:=List.mem_map.1 hp;have hnl:=(n4 ps h1).1 n hn;obtain⟨a,b⟩:=h2 n hn;rw[List.getElem?_eq_getElem hnl,Option.getD_some];have:=ih (at0 hs n) (by omega) n _ (List.getElem?_eq_getElem hnl) rfl a;exact this.up (by omega)
theorem Cert.lo:∀(n i:Nat)(s:Sn),K[i]?=some s->HtS j n s->0<at0 hs i/\at0 hs i<=n
 | 0,_,_,_,hh=>hh.elim
 | n+1,i,s,hi,hh=>by
  have hlt:=(lGs hi).1;obtain⟨_,n1,n2⟩:=h.num_ hlt;have hcl:=(h.at_ hi).1;cases hc:clC s with
  | true =>
   have:=n1 (by rw[hcl];exact hc);omega
  | false =>
   obtain⟨_,n4⟩:=n2 (by rw[hcl];exact hc);rw[zGh] at hh;rcases hh with hh|hh
   ·rw[<- zKt,hc] at hh;cases hh
   ·obtain⟨ps,h1,h2⟩:=(h.mv hi hc λl=>∀p∈l,HtS j n p).1 hh;obtain⟨n5,n6⟩:=n4 ps h1;have hp:∀p∈ps,0<at0 hs p/\at0 hs p<=n:=λp hp=>by
     have:=h2 _ (List.mem_map_of_mem hp);rw[List.getElem?_eq_getElem (n5 p hp),Option.getD_some] at this;exact Cert.lo n p _ (List.getElem?_eq_getElem (n5 p hp)) this
    rcases n6 with⟨p,hpm,h0⟩|⟨h0,p,hpm,hle⟩
    ·have:=(hp p hpm).1;omega
    ·have:=(hp p hpm).2;exact⟨h0,by omega⟩
theorem Cert.hF {i:Nat}{s:Sn}(hi:K[i]?=some s):Tryz.hF j s=at0 hs i :=
 vQi (λh0=>h.up _ i s hi rfl h0) λn hn=>h.lo n i s hi hn
theorem Cert.reach {s0:Sn}(h0:K[0]?=some s0):ReachOk j s0 K:=by
 have hr:∀(i:Nat) (s:Sn),K[i]?=some s->Rch j s0 s:=by
  intro i
  induction i using Nat.strongRecOn with
  | ind i ih =>
   intro s hi;have hlt:=(lGs hi).1;rcases (h.num_ hlt).1 with rfl|⟨k,hk,hck,ps,hps,him⟩
   ·rw[h0] at hi;cases hi;exact .refl
   ·obtain⟨sk,hsk⟩:=yQ1 (l:=K) (k:=k) (by omega);have hc:clC sk=false:=by rw[<- (h.at_ hsk).1];exact hck
    obtain⟨m,hm,hmp⟩:=(h.mv hsk hc λl=>s∈l).2 ⟨ps,hps,List.mem_map.2 ⟨i,him,by rw[hi];rfl⟩⟩;exact .step (ih k hk sk hsk) (λhx=>by rw[<- zKt,hc] at hx;cases hx) hm hmp
 refine⟨h.nd,λs=>⟨λhs=>?_,λhs=>?_⟩,λs hs hc=>?_,h.len⟩
 ·obtain⟨i,hi,rfl⟩:=List.mem_iff_getElem.1 hs;exact hr i _ (List.getElem?_eq_getElem hi)
 ·induction hs with
  | refl=>exact lMg h0
  | @step s _ hc m hm p hp ih =>
   obtain⟨i,hi,rfl⟩:=List.mem_iff_getElem.1 ih;have hc':clC K[i]=false:=by
    cases hq:clC K[i] with
    | false=>rfl
    | true=>exact absurd ((zKt _).1 hq) hc
   obtain⟨ps,hps,hpm⟩:=(h.mv (List.getElem?_eq_getElem hi) hc' λl=>p∈l).1 ⟨m,hm,hp⟩;obtain⟨n,hn,rfl⟩:=List.mem_map.1 hpm;have hnl:=(((h.num_ hi).2.2 (by rw[(h.at_ (List.getElem?_eq_getElem hi)).1];exact hc')).2 ps hps).1 n hn;rw[List.getElem?_eq_getElem hnl];exact List.getElem_mem hnl
 ·rintro⟨f,r,hf,t,ht,p,hp,hl⟩;have h1:=xUd ht p hp;have h2:=List.all_eq_true.1 h.short s hs;simp only[bAt,dTe] at h2;unfold tooL at hl;split at hl<;>omega
end
set_option maxRecDepth 100000
abbrev faP:Fm:=.mk 1 ⟨#[80]⟩ [] []
abbrev faQ:Fm:=.mk 1 ⟨#[81]⟩ [] []
abbrev fno (a:Fm):Fm:=.mk 3 noN [] [a]
abbrev fbi (o:Nat)(a b:Fm):Fm:=.mk o noN [] [a,b]
noncomputable def vK7 (K:List Sn):Decidable K.Nodup:=@List.nodupDecidable Sn (@instDecidableEqProd _ _ (@instDecidableEqList _ vV4) (@instDecidableEqList _ vV4)) K
theorem yKy {j:Bool}{K:List Sn}{cl:List Bool}{lk:List (List (List Nat))}{hs:List Nat}(h1:K.map nfC=K)(h2:@decide K.Nodup (vK7 K)=true)(h3:K.map clC=cl)
  (h4:K.map (λs=>if clC s=true then [] else mvC j s)=lk.map (·.map (·.map λn=>(K[n]?).getD ([],[])))) (h5:vWx K.length cl lk hs=true) (h6:(K.all λs=>decide (s.1.length<=60)&&decide (s.2.length<=60))=true) (h7:K.length<=20000):Cert j K cl lk hs :=
 ⟨h1,@of_decide_eq_true K.Nodup (vK7 K) h2,h3,h4,h5,h6,h7⟩
def c1K:List Sn:=[([faP,(fbi 6 faP faQ)],[faQ]),([faP,(fbi 6 faP faQ)],[faP]),([faP,faQ,(fbi 6 faP faQ)],[faQ])]
theorem c1:Cert true c1K [false,true,true] [[[1,2]],[],[]] [2,1,1]:=yKy (by kernel_rfl) (by kernel_rfl) (by kernel_rfl) (by kernel_rfl) (by kernel_rfl) (by kernel_rfl) (by decide)
def c2K:List Sn:=[([],[(fbi 5 faP (fno faP))]),([],[faP,(fno faP),(fbi 5 faP (fno faP))]),([faP],[faP,(fno faP),(fbi 5 faP (fno faP))])]
theorem c2:Cert false c2K [false,false,true] [[[1]],[[2],[1]],[]] [3,2,1]:=yKy (by kernel_rfl) (by kernel_rfl) (by kernel_rfl) (by kernel_rfl) (by kernel_rfl) (by kernel_rfl) (by decide)
def c3K:List Sn:=[([],[(fbi 5 faP (fno faP))]),([],[faP]),([],[(fno faP)]),([faP],[(fno faP)])]
theorem c3:Cert true c3K [false,false,false,false] [[[1],[2]],[],[[3]],[[3]]] [0,0,0,0]:=yKy (by kernel_rfl) (by kernel_rfl) (by kernel_rfl) (by kernel_rfl) (by kernel_rfl) (by kernel_rfl) (by decide)
def c4K:List Sn:=[([],[(fno (fno (fbi 5 faP (fno faP))))]),([(fno (fbi 5 faP (fno faP)))],[(fno (fno (fbi 5 faP (fno faP))))]),([(fno (fbi 5 faP (fno faP)))],[(fbi 5 faP (fno faP))]),([(fno (fbi 5 faP (fno faP)))],[faP]),([(fno (fbi 5 faP (fno faP)))],[(fno faP)]),([faP,(fno (fbi 5 faP (fno faP)))],[(fno faP)]),([faP,(fno (fbi 5 faP (fno faP)))],[(fbi 5 faP (fno faP))]),([faP,(fno (fbi 5 faP (fno faP)))],[faP])]
theorem c4:Cert true c4K [false,false,false,false,false,false,false,true] [[[1]],[[2],[1]],[[2],[3],[4]],[[2]],[[2],[5]],[[6],[5]],[[6],[7],[5]],[]] [7,6,5,6,4,3,2,1]:=yKy (by kernel_rfl) (by kernel_rfl) (by kernel_rfl) (by kernel_rfl) (by kernel_rfl) (by kernel_rfl) (by decide)
def c5K:List Sn:=[([(fbi 6 faP (fbi 6 faP faQ))],[(fbi 6 faP faQ)]),([(fbi 6 faP (fbi 6 faP faQ))],[faP,(fbi 6 faP faQ)]),([(fbi 6 faP faQ),(fbi 6 faP (fbi 6 faP faQ))],[(fbi 6 faP faQ)]),([faP,(fbi 6 faP (fbi 6 faP faQ))],[faQ,(fbi 6 faP faQ)]),([(fbi 6 faP faQ),(fbi 6 faP (fbi 6 faP faQ))],[faP,(fbi 6 faP faQ)]),([faP,(fbi 6 faP (fbi 6 faP faQ))],[faP,faQ,(fbi 6 faP faQ)]),([faP,(fbi 6 faP faQ),(fbi 6 faP (fbi 6 faP faQ))],[faQ,(fbi 6 faP faQ)])]
theorem c5:Cert false c5K [false,false,true,false,true,true,true] [[[1,2],[3]],[[1,4],[5]],[],[[5,6],[3]],[],[],[]] [3,2,1,2,1,1,1]:=yKy (by kernel_rfl) (by kernel_rfl) (by kernel_rfl) (by kernel_rfl) (by kernel_rfl) (by kernel_rfl) (by decide)
def c6K:List Sn:=[([(fbi 6 faP (fbi 6 faP faQ))],[(fbi 6 faP faQ)]),([(fbi 6 faP (fbi 6 faP faQ))],[faP]),([(fbi 6 faP faQ),(fbi 6 faP (fbi 6 faP faQ))],[(fbi 6 faP faQ)]),([faP,(fbi 6 faP (fbi 6 faP faQ))],[faQ]),([(fbi 6 faP faQ),(fbi 6 faP (fbi 6 faP faQ))],[faP]),([faP,(fbi 6 faP (fbi 6 faP faQ))],[faP]),([faP,(fbi 6 faP faQ),(fbi 6 faP (fbi 6 faP faQ))],[faQ]),([faQ,(fbi 6 faP faQ),(fbi 6 faP (fbi 6 faP faQ))],[faP]),([faP,(fbi 6 faP faQ),(fbi 6 faP (fbi 6 faP faQ))],[faP]),([faP,faQ,(fbi 6 faP faQ),(fbi 6 faP (fbi 6 faP faQ))],[faQ])]
theorem c6:Cert true c6K [false,false,true,false,false,true,false,false,true,true] [[[1,2],[3]],[[1,4]],[],[[5,6]],[[4,7],[4,4]],[],[[8,9],[8,6]],[[7,7],[7,7]],[],[]] [4,0,1,3,0,1,2,0,1,1]:=yKy (by kernel_rfl) (by kernel_rfl) (by kernel_rfl) (by kernel_rfl) (by kernel_rfl) (by kernel_rfl) (by decide)
theorem yWu {j:Bool}{K:List Sn}{cl:List Bool}{lk:List (List (List Nat))}{hs:List Nat}(h:Cert j K cl lk hs){s:Sn}(h0:K[0]?=some (nfC s)):hF j s=at0 hs 0/\ReachOk j (nf s) K:=by
 rw[<- vKn,nf_C];exact⟨h.hF h0,h.reach h0⟩
theorem aw2:hF false ([],[fbi 5 faP (fno faP)])=3/\ReachOk false (nf ([],[fbi 5 faP (fno faP)])) c2K:=yWu c2 (by kernel_rfl)
theorem aw3:hF true ([],[fbi 5 faP (fno faP)])=0/\ReachOk true (nf ([],[fbi 5 faP (fno faP)])) c3K:=yWu c3 (by kernel_rfl)
noncomputable def mvD (j:Bool)(s:Sn):List (Nat×Fm×List Sn):=(s.1.flatMap λf=>(addF j f false).map λt=>(t.1,f,t.2.map (pmC j s)))++s.2.flatMap λf=>(addF j f true).map λt=>(t.1,f,t.2.map (pmC j s))
theorem wZk (j:Bool)(s:Sn):mvF j s=mvD j s:=by
 have h:xXl j s=pmC j s:=funext λp=>nf_C _;unfold mvF zVi mvD;rw[h]
abbrev orP:Fm:=fbi 5 faP (fno faP)
theorem zUa {l:List Fm}{f:Fm}(h:(decide (l.length<=64)&&l.all (fmB 2)&&fmB 2 f)=true):yQv 2 ⟨l,[f]⟩=true:=by
 simp only[bAt] at h;obtain⟨⟨h1,h2⟩,h3⟩:=h;have hr:f.right=true:=by unfold fmB at h3;exact (bAt _ _▸h3).1
 unfold yQv;have he:eqF f f=true:=by unfold eqF zV1;rw[hr,dEt rfl];simp[eqB]
 simp only[h1,h2,h3,xJo,List.all_cons,List.all_nil,he,Bool.and_true,Bool.or_true];rfl
theorem awv2:yQv 1 ⟨[],[orP]⟩=true:=by kernel_rfl
theorem awv3:yQv 2 ⟨[],[orP]⟩=true:=zUa (by kernel_rfl)
theorem ReachOk.no' {j:Bool}{s0:Sn}{K:List Sn}(h:ReachOk j s0 K){e:Nat}(hn:zZi j s0 e):False:=h.no .refl hn
theorem ReachOk.top {j:Bool}{s0:Sn}{K:List Sn}(h:ReachOk j s0 K)(hc:¬ ClF s0.1 s0.2):¬ zG2 j s0:=h.short s0 ((h.mem s0).2 .refl) hc
end Go.Proofs.Tryz
namespace Go.Proofs.Tryz
open Go Go.Iv
set_option maxRecDepth 4000
variable (gl:Nat->Option IV)
abbrev sI (s:Sq):IV:=.agg [.sl (tagF s.l) (fmsI s.l),.sl (tagF s.r) (fmsI s.r)]
theorem xG2 (s:Sq)(h:(zW8 s.l&&zW8 s.r)=true):IsSq s (sI s):=by
 rw[bAt] at h;exact⟨_,_,_,_,rfl,xZx _,zGo _ h.1,xZx _,zGo _ h.2⟩
theorem yU4 (G:Gl gl)(T:Gt gl)(ca:Nat)(s:Sq)(hc:ca=1\/ca=2)(hv:yQv ca s=true){n:Nat}{K:List Sn}(hK:hF (calJ ca) (s.l,s.r)=n/\ReachOk (calJ ca) (nf (s.l,s.r)) K)(x:IV)(hx:IsSq s x)(hs:yJm s)(st:ISt) :
  ICall prog gl 28 [.raw (.int .u8 (ca:Int)),x] st (λr st'=>r=.tup [.raw (.int .i64 (n:Int)),.raw (.int .i64 0)]/\st'=st) :=
 (wW4 gl G T ca s x hx hs st).mono λr st' ⟨h1,h2⟩=>by
  rcases h2 with⟨e,hb,_⟩|⟨_,_,_,h3⟩
  ·rcases hb with⟨h,_⟩|⟨_,h,_⟩|⟨_,_,h⟩
   ·exact (h hc).elim
   ·rw[hv] at h;cases h
   ·exact (hK.2.no' h).elim
  ·rw[hK.1] at h3;exact⟨h3,h1⟩
theorem wUz (G:Gl gl)(T:Gt gl)(ca:Nat)(s:Sq)(hc:ca=1\/ca=2)(hv:yQv ca s=true)(hn:¬ zG2 (calJ ca) (nf (s.l,s.r)))(x:IV)(hx:IsSq s x)(hs:yJm s)(st:ISt) :
  ICall prog gl 82 [.raw (.int .u8 (ca:Int)),x] st (λr st'=>(∃t ys,okEs t 6/\AllR yWb (mvF (calJ ca) (nf (s.l,s.r))) ys/\r=.tup [.sl t ys,.raw (.int .i64 0)])/\st'=st) :=
 (wZm gl G T ca s x hx hs st).mono λr st' ⟨h1,h2⟩=>by
  rcases h2 with⟨h,_⟩|⟨_,h,_⟩|⟨_,_,⟨h,_⟩|⟨_,h3⟩⟩
  ·exact (h hc).elim
  ·rw[hv] at h;cases h
  ·exact (hn h).elim
  ·exact⟨h3,h1⟩
end Go.Proofs.Tryz
namespace Go.Proofs.Tryz
open Go Go.Iv
theorem xUx {ca:Nat}{s:Sq}(h:yQv ca s=true):∀f∈s.l++s.r,fmB ca f=true:=by
 unfold yQv at h;simp only[bAt,dTe,List.all_eq_true] at h;obtain⟨⟨⟨⟨⟨_,hl⟩,hr⟩,hfl⟩,hfr⟩,_⟩:=h;exact λf hf=>(List.mem_append.1 hf).elim (hfl f) (hfr f)
end Go.Proofs.Tryz
namespace Go.Proofs.Tryz
open Go Go.Iv
set_option maxRecDepth 4000
variable (gl:Nat->Option IV)
theorem xUh (l m:List Sq)(t t':Tag)(xs ys:List IV)(ht:okEs t 2)(ht':okEs t' 2)(hx:IsSqs l xs)(hy:IsSqs m ys)(st:ISt) :
  ICall prog gl 19 [.sl t xs,.sl t' ys] st (λr st'=>r=.raw (.bool (eqB l m))/\st'=st):=by
 refine iI func19 ?_;simp only[go_sem,zE,reduceCtorEq,hx.len,hy.len];intro hl1 hl2;by_cases hlen:l.length=m.length
 case neg =>
  simp only[go_sem,show decide (((l.length:Nat):Int)=m.length)=false from dEf (by omega)];exact yQ0 ⟨by rw[yQp.2 λh=>hlen (by rw[h])],rfl⟩
 simp only[go_sem,show decide (((l.length:Nat):Int)=m.length)=true from dEt (by omega)];refine LoopC.ctr l.length (λk fr st' ds=>l.take k=m.take k/\fr 0=.iv (.sl t xs)/\fr 1=.iv (.sl t' ys)/\fr 5=.iv (.raw (.int .i64 k))/\st'=st/\ds=[]) ?_ ?_ ?_
 ·simp only[go_sem,zE,reduceCtorEq];simp
 ·rintro k fr st1 _ hlt ⟨hn,f0,f1,f5,rfl,rfl⟩;obtain⟨a,ha⟩:=yQ1 hlt;obtain⟨b,hb⟩:=yQ1 (l:=m) (k:=k) (by omega);obtain⟨x,hkx,hxa⟩:=hx.get ha;obtain⟨y,hky,hyb⟩:=hy.get hb;have hcall:=zWk gl a b x y hxa hyb st1;obtain⟨_,_,_,_,rfl⟩:=IsSq.two hxa;obtain⟨_,_,_,_,rfl⟩:=IsSq.two hyb;simp only[go_sem,zE,zB,zA,reduceCtorEq,f0,f1,f5,hx.len,lt_i hlt,yQ4 ht,yQ4 ht',iNn,hkx,hky,fits];intros;refine hcall.mono ?_;rintro _ _ ⟨rfl,rfl⟩;cases hq:eqB a b
  ·simp only[go_sem];refine yQ0 ⟨?_,rfl⟩;rw[yQp.2 λh=>?_];subst h;rw[ha] at hb;cases hb;exact yQp.1 hq rfl
  ·simp only[go_sem,zE,reduceCtorEq,f0,f1,f5,yQd hlt (show l.length<=281474976710656 by omega)];rw[yQ8 ha,yQ8 hb,hn,yZ7.1 hq]
 ·rintro fr st1 _ ⟨hn,f0,f1,f5,rfl,rfl⟩;rw[lTl,show m.take l.length=m by rw[hlen,lTl]] at hn;simp only[go_sem,zE,reduceCtorEq,f0,f5,hx.len,yQl (nLi _)];intros;exact yQ0 ⟨by rw[yZ7.2 hn],rfl⟩
set_option maxRecDepth 8000
theorem wQb:∀ {l:List Sn}{xs:List IV},AllR (λp y=>IsSq ⟨p.1,p.2⟩ y) l xs->IsSqs (l.map λp=>⟨p.1,p.2⟩) xs
 | [],xs,h=>by
  have:=h.1;obtain rfl:xs=[]:=List.eq_nil_of_length_eq_zero this;simp[IsSqs]
 | p::l,xs,h=>by
  obtain⟨x,h0,hx⟩:=h.2 0 p rfl;cases xs with
  | nil=>cases h0
  | cons y ys =>
   obtain rfl:y=x:=by simpa using h0
   exact⟨y,ys,rfl,hx,wQb ⟨by have:=h.1;simpa using this,λi a ha=>h.2 (i+1) a ha⟩⟩
theorem yJw {s:Sq}(h:(s.l.all (λf=>decide (f.size<=1000000))&&s.r.all (λf=>decide (f.size<=1000000)))=true):yJm s:=by
 simp only[bAt,List.all_eq_true,dTe] at h;exact h
theorem xQr (x y z:Operand):yKv 3 [(0,x),(1,y),(2,z)]=true:=rfl
def kQb (r:List Nat)(x:IV):Prop:=∃t,x=.sl t (yQj r)/\okEs t 1
def vY8 (S:List (List Nat)):Prop:=S.length<=3/\∀r∈S,r.length<=3/\∀u∈r,u<S.length
section
variable (S:List (List Nat))(hS:vY8 S)(tS:Tag)(xS:List IV)(htS:okEs tS 1)(hxS:AllR kQb S xS)(ta tm:Tag)(hta:okEs ta 1)(htm:okEs tm 1)(l:List ByteArray)(hnd:l.Nodup)(hl:l.length<=100)(ms:List Nat)(hml:ms.length=S.length)(hms:∀m∈ms,m<=1000000)
include hS htS hxS hta htm hnd hl hml hms
end
end Go.Proofs.Tryz
namespace Go.Proofs.Tryz
open Go Go.Iv
theorem yY7:∀ {l:List Tr}{a:Tr},a∈l->a.steps<=yQq l
 | b::l,a,h=>by
  simp only[yQq];rcases List.mem_cons.1 h with rfl|h
  ·omega
  ·have:=yY7 h;omega
section
variable {ca rule:Nat}{s:Sq}{f:Fm}{u:Tm}{n:ByteArray}{sub:List Tr}(h:(yXl ca (.mk rule s f u n sub)).2=0)(h1:s.l.length<64)(h2:s.r.length<64)
include h h1 h2
end
section
variable {ca rule:Nat}{s:Sq}{f:Fm}{u:Tm}{n:ByteArray}{sub:List Tr}(h:(yXl ca (.mk rule s f u n sub)).2=0)
include h
end
section
variable (nm:ByteArray)(g:Fm)
end
section
variable {nm:ByteArray}{g:Fm}{ca:Nat}
end
section
variable {nm:ByteArray}{g:Fm}{ca:Nat}
end
abbrev trZ0:Tr:=.mk 0 ⟨[],[]⟩ fm0 tmZ noN []
noncomputable def mstS (j:Bool)(ps:List Sn):Nat:=if ps.any (λp=>decide (hF j p=0))=true then 0 else ps.foldl (λm p=>max m (hF j p)) 0
noncomputable def kQ0 (j:Bool)(s:Sn):Option (Nat×Fm×List Sn):=(mvF j s).find? λm=>decide (mstS j m.2.2+1=hF j s)
open Classical in
noncomputable def axF (s:Sn):Option (Nat×Fm):=match s.1.find? (λf=>decide (f∈s.2)) with
 | some f=>some (1,f)
 | none=>if s.1.any zVk=true then some (2,.mk 2 noN [] []) else none
noncomputable def tF (j:Bool):Nat->Sn->Tr
 | 0,_=>trZ0
 | n+1,s=>match axF s with
  | some (r,f)=>.mk r (sqOf s) f tmZ noN []
  | none=>match kQ0 j s with
   | some m=>.mk m.1 (sqOf s) m.2.1 tmZ noN (m.2.2.map (tF j n))
   | none=>trZ0
theorem vZ9 {s:Sn}{r:Nat}{f:Fm}(h:axF s=some (r,f)):(r=1/\f∈s.1/\f∈s.2)\/(r=2/\f=.mk 2 noN [] []/\∃g∈s.1,zVk g=true):=by
 unfold axF at h;split at h
 ·rename_i f' hf;cases h;exact .inl ⟨rfl,List.mem_of_find?_eq_some hf,by simpa using List.find?_some hf⟩
 ·split at h
  ·rename_i ha;cases h;obtain⟨g,h1,h2⟩:=List.any_eq_true.1 ha;exact .inr ⟨rfl,rfl,g,h1,h2⟩
  ·cases h
noncomputable def zVm:Tr->Bool
 | .mk r _ m _ _ sub=>decide (r=0)&&sub.isEmpty&&decide (yZa m fm0=0)
def xXq:Tr->Bool
 | .mk r _ _ _ _ sub=>decide (r=0)&&sub.isEmpty
abbrev goalT (s:Sq):Tr:=.mk 0 s fm0 tmZ noN []
def shal:Tr->Tr
 | .mk r s m _ _ sub=>.mk r s m tmZ noN (sub.map λp=>goalT p.sq)
noncomputable def yJb (ca:Nat)(t:Tr):Bool:=if zVm t=true then yQv ca t.sq else decide ((yXl ca (shal t)).2=0) || decide (0<(yXl ca (shal t)).1.length)
noncomputable def badN (ca:Nat)(t:Tr):Nat:=if yJb ca t=true then 0 else 270
noncomputable def hCk (ca:Nat)(t:Tr):List Nat×Nat:=if ca=1\/ca=2 then (if 300<t.steps then ([],5) else yQx (badN ca) (t.walk [])) else ([],2)
def yJ7 (t:Tr):List (List Nat):=((t.walk []).filter λq=>xXq q.2).map (·.1)
def atT:Tr->List Nat->Tr
 | t,[]=>t
 | .mk _ _ _ _ _ sub,i::p=>match sub[i]? with
  | some s=>atT s p
  | none=>trZ0
end Go.Proofs.Tryz
namespace Go.Iv
open Go
theorem V.newer {M B:Nat}{L L':Nat->Nat}{w:World}{r:Value}{t:Tag}{xs:List IV}(hL:∀b,M<=b->L' b=L b)(hB:B<=M)(ht:t.cap=.nil\/t.fresh=true)(hx:∀x∈xs,∃v,x=.raw v)(h:V M L w r (.sl t xs)):V B L' w r (.sl t xs):=by
 cases h with
 | sl a cap t xs T vs hcap hlen hcl hs hvl hroom hfresh hplace h =>
  have hraw:∀(i:Nat) (r:Value) (c:IV),vs[i]?=some r->(xs.flatMap IV.cells)[i]?=some c->V B L' w r c:=λi r c hr hc=>by
   have hcm:=lMg hc;obtain⟨x,hxm,hcx⟩:=List.mem_flatMap.1 hcm;obtain⟨v,rfl⟩:=hx x hxm;simp only[IV.cells,List.mem_singleton] at hcx;subst hcx;cases h i r _ hr hc with
   | raw _ hv=>exact .raw _ hv
  rcases ht with ht|ht
  ·have hxe:xs=[]:=by
    rw[ht] at hcap;exact List.eq_nil_of_length_eq_zero hcap.2.1
   exact .sl a cap t xs T vs hcap hlen hcl hs hvl hroom (λhf ad ha=>by have:=hfresh hf ad ha;exact⟨by omega,this.2⟩) (λhne=>absurd hxe hne) hraw
  ·refine .sl a cap t xs T vs hcap hlen hcl hs hvl hroom (λhf ad ha=>by have:=hfresh hf ad ha;exact⟨by omega,this.2⟩) (λhne=>?_) hraw;grind
def Newly (r:IV):Prop:=∀(M B:Nat) (L L':Nat->Nat) (w:World) (v:Value),(∀b,M<=b->L' b=L b)->B<=M->V M L w v r->V B L' w v r
theorem Newly.sl {t:Tag}{xs:List IV}(ht:t.cap=.nil\/t.fresh=true)(hx:∀x∈xs,∃v,x=.raw v):Newly (.sl t xs):=λ_ _ _ _ _ _ hL hB h=>V.newer hL hB ht hx h
section
variable {P:Program}{gl:Nat->Option IV}{f:FuncId}{args args':List IV}{st:ISt}
theorem ICall.lentN {K:IV->Prop}(hf:∀b o,st b=some o->(∃cs,o=.box cs)\/vWg o)(hgl:∀g x,gl g=some x->age x=x)(hl:Lents st args args')(h:ICall P gl f (ages args') (zQ2 st) (λr st'=>st'=zQ2 st/\Newly r/\K r)) :
  ICall P gl f args st (λr st'=>st'=st/\K r):=by
 intro B X rs hg hst hv;subst hst;have hgl':=hg.lend;have hg1:Good ⟨P,gl,X.w.heap.size⟩ X.lend:=⟨λb o hb=>(hgl'.ok b o hb).flat (by
   have hb':zQ2 X.st b=some o:=hb;rcases hf b o (zJv X.st b o hb') with⟨cs,rfl⟩|hfl
   ·rw[yYh (zJv X.st b _ hb')] at hb';cases hb'
   ·exact hfl) rfl rfl,λg x hx=>by
   have h1:=hgl g x hx;have h2:=(hgl'.gl g x hx).aged (B':=X.w.heap.size);simp only[age,h1] at h2;exact h2,Nat.le_refl _,hgl'.Lnew,hgl'.gsh,hgl'.dr⟩
 have hva:Cx.vl ⟨P,gl,X.w.heap.size⟩ X.lend rs (ages args'):=VL.aged (hl.v hg hv);refine (h X.w.heap.size X.lend rs hg1 rfl hva).mono ?_;rintro e w' ⟨v,rfl,X',x,rfl,h2,h3,h4,h5,h6,h7⟩;have hlt:∀ {b o},X.st b=some o->b<X.w.heap.size:=λhb=>hg.lt hb
 let Y:WS:={ w:=X'.w,L:=λb=>match X.st b with|some (.box _)=>0|_=>X'.L b,st:=X.st,d:=X'.d }
 have hYb:∀ {b cs},X.st b=some (.box cs)->Y.L b=0:=λhb=>by simp only[Y,hb]
 have hYk:∀ {b},(∀cs,X.st b≠some (.box cs))->Y.L b=X'.L b:=λ{b} hb=>by
  grind
 have heap:∀ {b cs},X.st b=some (.box cs)->X'.w.heap[b]?=X.w.heap[b]?:=λ{b cs} hb=>(h3.keep b (hlt hb) (yYh hb)).1;have he:Ext X Y:=by
  refine⟨h3.os,h3.tape,h3.output,h3.size,λb=>?_,λb i hi=>?_,λb hb hs=>?_,λb _ hs=>hs,h3.shape,h3.d⟩
  ·by_cases hb:∃cs,X.st b=some (.box cs)
   ·obtain⟨cs,hb⟩:=hb;rw[(hg.ok b _ hb).1];exact Nat.zero_le _
   ·rw[hYk λcs hc=>hb ⟨cs,hc⟩];exact Nat.le_trans (hg.lend_ext.lmono b) (h3.lmono b)
  ·exact h3.cells b i (Nat.lt_of_lt_of_le hi (hg.lend_ext.lmono b))
  ·have hne:∀cs,X.st b≠some (.box cs):=λcs hc=>by rw[hs] at hc;cases hc
   obtain⟨k1,k2⟩:=h3.keep b hb ((yG9 hne).trans hs);exact⟨k1,by rw[hYk hne,k2,yYk hne]⟩
 have hnew:∀b,X.w.heap.size<=b->Y.L b=X'.L b:=λb hb=>hYk λcs hc=>by have:=hlt hc;omega
 have h4':V B Y.L Y.w v x:=h6 _ _ _ _ _ _ hnew hg.B h4;refine⟨v,rfl,Y,_,rfl,⟨λb o hb=>?_,λg x hgx=>he.v (hg.gl g x hgx),Nat.le_trans hg.B h3.size,λb hb=>?_,λg x hgx=>?_,h2.dr⟩,he,h4',rfl,h7⟩
 ·by_cases hbx:∃cs,X.st b=some (.box cs)
  ·obtain⟨cs,hbx⟩:=hbx;have hb':X.st b=some o:=hb;rw[hbx] at hb';cases hb';exact (hg.ok b _ hbx).mono (heap hbx) (by rw[hYb hbx,(hg.ok b _ hbx).1]) (λ_ _ hv=>he.vl hv)
  ·have hne:∀cs,X.st b≠some (.box cs):=λcs hc=>hbx ⟨cs,hc⟩;have h1:X'.st b=some o:=by rw[h5];exact (yG9 hne).trans hb
   exact (h2.ok b o h1).flat ((hf b o hb).resolve_left λ⟨cs,hc⟩=>hbx ⟨cs,hb.trans (congrArg some hc)⟩) rfl (hYk hne)
 ·have hne:∀cs,X.st b≠some (.box cs):=λcs hc=>by
   grind
  rw[hYk hne];exact h2.Lnew b hb
 ·exact h2.gsh g x hgx
end
theorem xQu {l:Array Bool}{i j:Nat}(hi:i<l.size):(l.setIfInBounds i true).getD j false=if i=j then true else l.getD j false:=by
 by_cases h:i=j
 ·subst h;rw[if_pos rfl];simp[hi]
 ·rw[if_neg h,getD_set_ne false h]
theorem yZ4 (c:Cf)(ops:List Oper)(dst:Option Nat)(op:Op)(ty:TypeId)(pos:String)(aft:Array Edge)(K:Kt)(ad:Ad)(fr:Fr)(st:ISt)(ds:List Dfd):yWz c ops ⟨dst,op,ty,pos,aft,none⟩ K ad fr st ds=vcOp c dst op K ad fr st ds:=rfl
theorem yXt {ad:Ad}(h:∀s,ad s=none)(d:Nat):∀s,ad.put d none s=none:=λs=>by
 rw[Ad.put_apply,h s];split<;>rfl
theorem zJj {ops:Array Oper}{listed:Array Bool}(h:((List.range ops.size).all λi=>(opAt ops i).after.toList.all λe=>!Region.binds .any e || decide (e.on<i))=true)(hz:listed.size=ops.size)(hr:Region.ready .any ops listed=[]):∀i,i<ops.size->listed.getD i false=true:=by
 intro i
 induction i using Nat.strongRecOn with
 | _ i ih =>
  intro hi;refine Classical.byContradiction λhc=>?_;have h4:listed.getD i true=false:=by
   rw[Array.getD_eq_getD_getElem?,Array.getElem?_eq_getElem (by omega)] at hc ⊢;simpa using hc
  have:i∈Region.ready .any ops listed:=mem_ready.2 ⟨h4,_,yV7 hi,λe hem hb=>by
   have h5:=List.all_eq_true.1 (List.all_eq_true.1 h i (List.mem_range.2 hi)) e (by simpa using hem);rw[hb] at h5;have h6:e.on<i:=by simpa using h5
   exact ih e.on h6 (Nat.lt_trans h6 hi)⟩
  rw[hr] at this;cases this
end Go.Iv
namespace Go.Proofs.Tryz
open Go Go.Iv
set_option maxRecDepth 4000
variable (gl:Nat->Option IV)
theorem wZ5 {p:List Nat}{k a:Nat}(h:p[k]?=some a):(plI p)[k]?=some (.raw (.int .i64 (a:Int))):=by simp[plI,List.getElem?_map,h]
theorem xG9 (p q:List Nat):plI (p++q)=plI p++plI q:=by simp[plI]
def sumN:List Nat->Nat
 | []=>0
 | a::l=>a+sumN l
theorem yGy:∀l m:List Nat,sumN (l++m)=sumN l+sumN m
 | [],m=>by simp[sumN]
 | a::l,m=>by simp only[List.cons_append,sumN,yGy l m];omega
theorem wQ8 (l:List Nat)(k:Nat):sumN (l.take k)<=sumN l:=by
 conv=>rhs;rw[<- List.take_append_drop k l]
 rw[yGy];omega
theorem uX1 (tg:Tag)(l:List Nat)(htg:okEs tg 1)(hs:sumN l<=4611686018427387904)(st:ISt):ICall prog gl 48 [.sl tg (plI l)] st (λr st'=>r=.raw (.int .i64 (sumN l))/\st'=st):=by
 refine iI func48 ?_;simp only[go_sem,reduceCtorEq,yXn];intro _;refine LoopC.ctr l.length (λk fr st' ds=>fr 3=.iv (.raw (.int .i64 (sumN (l.take k))))/\fr 6=.iv (.sl tg (plI l))/\fr 7=.iv (.raw (.int .i64 l.length))/\fr 8=.iv (.raw (.int .i64 k))/\st'=st/\ds=[]) ?_ ?_ ?_
 ·simp only[go_sem,zE];simp[sumN]
 ·rintro k fr st1 _ hlt ⟨f3,f6,f7,f8,rfl,rfl⟩;obtain⟨a,ha⟩:=yQ1 hlt;have h1:=wQ8 l (k+1);have h2:sumN (l.take (k+1))=sumN (l.take k)+a:=by rw[yQ8 ha,yGy];rfl
  have h3:IntKind.i64.wrap (((sumN (l.take k):Nat):Int)+(a:Int))=((sumN (l.take (k+1)):Nat):Int):=by rw[w64]<;>omega
  simp only[go_sem,zE,f3,f6,f7,f8,lt_i hlt,yQ4 htg,iNn,wZ5 ha,fits,h3,yQd hlt (show l.length<=281474976710656 by omega)]
 ·rintro fr st1 _ ⟨f3,f6,f7,f8,rfl,rfl⟩;rw[lTl] at f3;simp only[go_sem,zE,f3,f7,f8,yQl (nLi _)];exact yQ0 ⟨rfl,rfl⟩
def vJd:Tr->List Tr
 | .mk _ _ _ _ _ sub=>sub
def xYk (g:Nat)(v:Tr->Nat):Prop:=∀(t:Tr) (l:List Nat) (x:IV) (tg:Tag) (st0 st:ISt),IsTr t x->t.steps<=1099511627776->l=(vJd t).map v->own st tg l.length 1 st0->subSt st0 st →
 ICall prog gl g [x,.sl tg (plI l)] st (λr st'=>r=.raw (.int .i64 (v t))/\subSt st0 st')
theorem zUg:∀ {l:List Tr}{t:Tr},t∈l->t.steps<=yQq l
 | a::l,t,h=>by
  simp only[yQq];rcases List.mem_cons.1 h with rfl|h
  ·omega
  ·have:=zUg h;omega
theorem yVa:∀l:List Tr,l.length<=yQq l
 | []=>Nat.le_refl _
 | .mk _ _ _ _ _ s::l=>by
  have:=yVa l;simp only[List.length_cons,yQq,Tr.steps];omega
def wYa (v:Tr->Nat)(g:Nat)(t:Tr):Prop:=∀(x:IV) (_:IsTr t x) (_:t.steps<=1099511627776) (st:ISt),ICall prog gl 46 [x,.fn (.func g) [] []] st (λr st'=>r=.raw (.int .i64 (v t))/\st'=st)
theorem wXw (v:Tr->Nat)(g:Nat)(hent:entI prog g=true)(hg:xYk gl g v)(rule:Nat)(sq:Sq)(f:Fm)(u:Tm)(n:ByteArray)(sub:List Tr)(IH:∀a∈sub,wYa gl v g a):wYa gl v g (.mk rule sq f u n sub):=by
 intro x hx hs st;have hx0:=hx;obtain⟨tl,xl,tr,xr,op,fn,ta,xa,tb,xb,vb,un,tu,xu,ts,xs,rfl,hru,_,_,_,_,_,_,e3,i3⟩:=hx.mk;have hs0:=hs;simp only[Tr.steps] at hs;have hll:=yVa sub;refine iI func46 ?_;simp only[go_sem,zE,i3.len];intro _;refine LoopC.ctr sub.length (λk fr st' ds=>(∃tg',fr 5=.iv (.sl tg' (plI ((sub.take k).map v)))/\own st' tg' k 1 st/\subSt st st')/\fr 1=.iv (.fn (.func g) [] [])/\fr 2=.box [.raw (.int .u8 rule),.sl tl xl,.sl tr xr,.raw (.int .u8 op),.raw (.string fn),.sl ta xa,.sl tb xb,.raw (.bool vb),.raw (.string un),.sl tu xu,.raw (.string n),.sl ts xs] /\
  fr 9=.iv (.sl ts xs)/\fr 10=.iv (.raw (.int .i64 sub.length))/\fr 11=.iv (.raw (.int .i64 k))/\ds=[]) ?_ ?_ ?_
 ·simp only[go_sem,zE];exact⟨⟨_,rfl,.inl ⟨rfl,rfl⟩,subSt.refl _⟩,rfl⟩
 ·rintro k fr st1 _ hlt ⟨⟨tg',f5,hown,hsub⟩,f1,f2,f9,f10,f11,rfl⟩;obtain⟨a,ha⟩:=yQ1 hlt;obtain⟨z,hkz,hz⟩:=i3.get ha;have hst:=zUg (lMg ha);have hcall:=IH a (lMg ha) z hz (by omega) st1;obtain⟨rule',tl',xl',tr',xr',op',fn',ta',xa',tb',xb',v',un',tu',xu',n',ts',xs',rfl⟩:=yX8 hz;simp only[go_sem,zE,zB,zA,zL,f1,f5,f9,f10,f11,lt_i hlt,yQ4 e3,iNn,hkz,fits];refine hcall.mono ?_;rintro _ _ ⟨rfl,rfl⟩;simp only[go_sem,zE,zA,zM,zL,fits,yYr];refine yJh hown (by rw[yXn,List.length_map,List.length_take];omega) hsub rfl (by simp[fits,IV.one]) (by simp only;omega) (by omega) λtg2 st4 hown2 hsub4 _ _=>?_;simp only[go_sem,zE,f1,f2,f9,f10,f11,yQd hlt (show sub.length<=281474976710656 by omega)];exact⟨tg2,by rw[yQ8 ha,List.map_append,xG9];rfl,hown2,hsub4⟩
 ·rintro fr st1 _ ⟨⟨tg',f5,hown,hsub⟩,f1,f2,f9,f10,f11,rfl⟩;rw[lTl] at f5;have hcall:=hg _ (sub.map v) _ tg' st st1 hx0 hs0 rfl (by rw[List.length_map];exact hown) hsub;simp only[go_sem,zE,zA,zL,f1,f2,f5,f10,f11,yQl (nLi _),hent];refine hcall.mono ?_;rintro _ st2 ⟨rfl,hsub2⟩;simp only[go_sem];exact yQg hsub2 ⟨rfl,rfl⟩
theorem xWp (v:Tr->Nat)(g:Nat)(hent:entI prog g=true)(hg:xYk gl g v):∀(k:Nat) (t:Tr),SizeOf.sizeOf t<k->wYa gl v g t
 | 0,t,h=>by omega
 | k+1,.mk r sq f u n sub,h=>wXw gl v g hent hg r sq f u n sub (λa ha=>xWp v g hent hg k a (by
   have:=lSm ha;simp at h;omega))
theorem vV1 (v:Tr->Nat)(g:Nat)(hent:entI prog g=true)(hg:xYk gl g v)(t:Tr):wYa gl v g t:=xWp gl v g hent hg _ t (Nat.lt_succ_self _)
theorem zJ5:∀l:List Tr,sumN (l.map Tr.steps)=yQq l
 | []=>rfl
 | a::l=>by simp only[List.map_cons,sumN,yQq,zJ5 l]
theorem wXx:xYk gl 47 Tr.steps:=by
 rintro⟨rule,s,m,u,n,sub⟩ l x tg st0 st hx hs rfl hown hsub;simp only[vJd] at hown ⊢;simp only[Tr.steps] at hs;have hsum:=λst=>uX1 gl tg (sub.map Tr.steps) hown.es (by rw[zJ5];omega) st;have hw:IntKind.i64.wrap (1+((yQq sub:Nat):Int))=((1+yQq sub:Nat):Int):=by rw[w64]<;>omega
 rw[zJ5] at hsum;obtain⟨rule',tl',xl',tr',xr',op',fn',ta',xa',tb',xb',v',un',tu',xu',n',ts',xs',rfl⟩:=yX8 hx;refine iI func47 ?_;simp only[go_sem,zE,zA];refine (hsum _).mono ?_;rintro _ _ ⟨rfl,rfl⟩;simp only[go_sem,hw];exact yQ0 ⟨by simp only[Tr.steps],hsub⟩
theorem wKd (t:Tr)(x:IV)(hx:IsTr t x)(hs:t.steps<=1099511627776)(st:ISt):ICall prog gl 23 [x] st (λr st'=>r=.raw (.int .i64 (t.steps))/\st'=st):=by
 have hf:=λst=>vV1 gl Tr.steps 47 (by simp only[go_sem]) (wXx gl) t x hx hs st;obtain⟨rule',tl',xl',tr',xr',op',fn',ta',xa',tb',xb',v',un',tu',xu',n',ts',xs',rfl⟩:=yX8 hx;refine iI func23 ?_;simp only[go_sem,zE,zA,zL];refine (hf _).mono ?_;rintro _ _ ⟨rfl,rfl⟩;simp only[go_sem];exact yQ0 ⟨rfl,rfl⟩
theorem xG8 {g cap:Nat}{p:List Nat}{cs:List IV}(hl:p.length<=1099511627776)(h1:p.length<=cap)(h2:cap<=cs.length)(h3:cs.take p.length=plI p):Lents (emp.put g (some (.box cs))) [.raw (.slice (some ⟨g,0,none⟩) p.length cap)] [.sl ⟨false,.app g,1⟩ (plI p)]:=by
 refine⟨_,_,rfl,.inr ⟨.sl ⟨true,.app g,1⟩ (plI p),?_,?_⟩,rfl⟩
 ·rw[<- yXn p];refine .sl g cap ⟨true,.app g,1⟩ (plI p) cs rfl (by rw[yXn];omega) (by rw[yXn];exact h1) (λx hx=>?_) (ISt.put_same ..) (by simpa using h2) λi r c hr hc=>?_
  ·obtain⟨i,_,rfl⟩:=List.mem_map.1 hx;rfl
  ·rw[zYs p] at hc;have hi:i<p.length:=by
    have:=(lGs hc).1
    rwa [yXn] at this
   have:(cs.take p.length)[i]?=cs[i]?:=by rw[List.getElem?_take,if_pos hi]
   rw[h3,hc,hr] at this;cases this;exact .refl _
 ·simp only[age,zXu]
theorem wZf {g:Nat}{cs:List IV}:zQ2 (emp.put g (some (.box cs)))=emp:=by
 funext b;by_cases hb:b=g
 ·rw[hb,yYh (ISt.put_same ..)];rfl
 ·have:(emp.put g (some (.box cs))) b=none:=by rw[ISt.put_apply,if_neg hb];rfl
  rw[yG9 (λcs' h=>by rw[this] at h;cases h),this];rfl
theorem vZj (hgl:∀g x,gl g=some x->age x=x)(p:List Nat)(a:IV)(e s:ISt)(hp:PlV p a e)(hl:p.length<=1099511627776)(hd:disj s e):ICall prog gl 26 [a] (join s e) (λr st'=>(∃t',r=.sl t' (plI p)/\okEs t' 1)/\st'=join s e):=by
 have key:ICall prog gl 26 [a] e (λr st'=>st'=e/\∃t',r=.sl t' (plI p)/\okEs t' 1):=by
  rcases hp with⟨t,rfl,ht,rfl,rfl⟩|⟨g,cap,cs,rfl,rfl,h1,h2,h3⟩
  ·exact (xUl gl t ht emp).mono λr st' ⟨⟨t',h,h'⟩,h2⟩=>⟨h2,t',h,h'.1⟩
  ·refine ICall.lentN (K:=λr=>∃t',r=.sl t' (plI p)/\okEs t' 1) (λb o hb=>?_) hgl (xG8 hl h1 h2 h3) ?_
   ·rw[ISt.put_apply] at hb;split at hb
    ·cases hb;exact .inl ⟨_,rfl⟩
    ·cases hb
   ·rw[wZf,show ages [.sl ⟨false,.app g,1⟩ (plI p)]=[.sl ⟨false,.app g,1⟩ (plI p)] by simp only[ages,age,zXu]];have hw:∀r (st':ISt),((∃t',r=.sl t' (plI p)/\okN t')/\st'=emp)->st'=emp/\Newly r/\∃t',r=.sl t' (plI p)/\okEs t' 1:=λr st' ⟨⟨t',h,h'⟩,h2⟩=>by
     subst h;exact⟨h2,.sl h'.2 λx hx=>by obtain⟨i,_,rfl⟩:=List.mem_map.1 hx;exact⟨_,rfl⟩,t',rfl,h'.1⟩
    by_cases hpn:p=[]
    ·subst hpn;exact (xKf gl g emp).mono hw
    ·exact (xUm gl g p hpn hl emp).mono hw
 have h1:=key.frame (own:=s) (λb hb=>by
  cases he:e b with
  | none=>rfl
  | some o=>exact absurd (hd b (by rw[he];simp)) hb)
 rw[xQh hd];refine h1.mono ?_;rintro r st' ⟨stu,_,rfl,rfl,h⟩;exact⟨h,rfl⟩
theorem xGo {e st':ISt}(h:subSt e st'):∃s1,disj s1 e/\st'=join s1 e/\∀b,e b=none->s1 b=st' b:=by
 refine⟨λb=>match e b with|none=>st' b|some _=>none,λb hb=>?_,?_,λb hb=>by simp only[hb]⟩
 ·cases he:e b with
  | none=>exact absurd he hb
  | some o=>simp only[he]
 ·funext b;cases he:e b with
  | none=>rw[yQo he];simp only[he]
  | some o=>rw[yQi he,h b o he]
theorem zQe {s e:ISt}{b:Nat}{o:IObj}(hd:disj s e)(h:s b=some o):e b=none:=by
 cases he:e b with
 | none=>rfl
 | some _=>rw[hd b (by rw[he];simp)] at h;cases h
def vYe (l:List (List Nat))(ys:List IV):Prop:=AllR (λp y=>∃t,y=.sl t (plI p)/\okEs t 1) l ys
def GoI (st:ISt)(b:Nat)(l:List (List Nat))(s:ISt):Prop:=∃t ys,s b=some (.box [.sl t ys])/\own s t ys.length 1 st/\subSt st s/\vYe l ys
def zWm (w:List (List Nat×Tr)):List (List Nat):=(w.filter λq=>xXq q.2).map (·.1)
theorem xJe {w:List (List Nat×Tr)}{p:List Nat}{t:Tr}:zWm (w++[(p,t)])=if xXq t=true then zWm w++[p] else zWm w:=by
 unfold zWm;rw[List.filter_append,List.map_append];by_cases h:xXq t=true
 ·rw[if_pos h];simp[h]
 ·rw[if_neg h];simp[h]
def GoJ (a:IV)(b:Nat)(p:List Nat)(tg:Tag)(ys:List IV)(S0 S:ISt)(listed:Array Bool):Kt:=λad fr st ds=>(∀s,ad s=none)/\ds=[]/\fr 3=.iv (pt b)/\fr 4=.iv a/\(listed.getD 0 false=true->fr 19=.iv (.sl tg ys))/\(listed.getD 1 false=true->fr 20=.iv a) /\
 (listed.getD 2 false=true->∃t,okEs t 1/\fr 21=.iv (.sl t (plI p)))/\(listed.getD 3 false=true->∃t,okEs t 1/\fr 22=.iv (.sl ⟨true,.full,1⟩ [.sl t (plI p)])) /\
 (listed.getD 4 false=true->listed.getD 0 false=true/\listed.getD 2 false=true)/\(listed.getD 4 false=false->st=S) /\
 (listed.getD 4 false=true->∃t u,okEs t 1/\fr 23=.iv (.sl u (ys++[.sl t (plI p)]))/\own st u (ys.length+1) 1 S0/\subSt S0 st/\∃c,st b=some (.box [c])/\(listed.getD 5 false=true->c=.sl u (ys++[.sl t (plI p)])))/\(listed.getD 5 false=true->listed.getD 4 false=true)/\(listed.getD 3 false=true->listed.getD 2 false=true)
theorem wKg (hgl:∀g x,gl g=some x->age x=x)(t:Tr)(x:IV)(hx:IsTr t x)(hs:t.steps<=1000000)(st:ISt):ICall prog gl 27 [x] st (λr st'=>(∃tg ys,r=.sl tg ys/\okEs tg 1/\vYe (yJ7 t) ys)/\st'=st):=by
 have hh:=Nat.le_trans t.height_le_steps hs;have hst:=λst=>xWj gl x st t hx;have hit:=λI=>xQp gl t x hx (by omega) I;obtain⟨rule,tl,xl,tr,xr,op,fn,ta,xa,tb,xb,v,un,tu,xu,n,ts,xs,rfl⟩:=yX8 hx;refine ICall.intro (c:=cf prog gl [3,19] [(6,[])] [1]) func27 rfl (by show _<=25;simp) (by kernel_rfl) ?_;simp only[go_sem,zE,zB,zA,zM,zS,zL,reduceCtorEq,fits,IV.one];intro b;refine yQ9 λhb=>?_;refine (hst _).mono ?_;rintro _ _ ⟨rfl,rfl⟩;simp only[go_sem,zE,zB,zA,zM,zS,zL,reduceCtorEq,fits];refine RangeL.intro (lkW (λx=>x) (t.walk [])) (t.walk []).length (λk s=>GoI st b (zWm ((t.walk []).take k)) s) (λe s=>False) rfl ?_ ?_ ?_ (hit _) ?_ ?_
 ·rintro k a e ⟨p,u,a,y,_,_,_,rfl⟩;rfl
 ·exact⟨_,[],ISt.put_same ..,own.nil ..,yQh hb,AllR.nil⟩
 ·rintro k _ e s ⟨p,z,a,y,hkz,hz,hp,rfl⟩ hd ⟨tg,ys,c3,hown,hsub,hys⟩;have hd':disj s e:=hd;have r3:=yZn hd' _ _ c3;have hpl:=yY4 [] t _ (lMg hkz);simp only[List.length_nil] at hpl;have hcl:=vZj gl hgl p a e s hp (by omega) hd';have hiv:ivOf (.iv a)=some a:=by rcases hp with⟨t,rfl,_⟩|⟨g,cap,cs,rfl,_⟩<;>rfl
  have hkl:=(lGs hkz).1;rw[zX7] at hkl;rw[yQ8 hkz,xJe];obtain⟨rule',sq',f',u',n',sub'⟩:=z;obtain⟨tl',xl',tr',xr',op',fn',ta',xa',tb',xb',v',un',tu',xu',ts',xs',rfl,_,_,_,_,_,_,_,e3',i3'⟩:=hz.mk;have hl3:=i3'.len;by_cases h0:rule'=0
  ·have d0:decide ((rule':Int)=0)=true:=dEt (by omega);by_cases h1:sub'=[]
   ·have d1:decide ((xs'.length:Int)=0)=true:=by rw[hl3,h1];rfl
    rw[if_pos (by simp[xXq,h0,h1])];simp only[go_sem,zE,zB,zA,zM,zS,zL,reduceCtorEq,fits,d0,d1,hiv];intro _;have hyl:ys.length<=k:=by
     rw[hys.1];unfold zWm;rw[List.length_map];refine Nat.le_trans (List.length_filter_le ..) ?_;rw[List.length_take];omega
    have hjb:(join st e) b=none:=by rw[yQo (zQe hd' c3)];exact hb
    have hsj:subSt (join st e) (join s e):=λc o h=>by
     cases he:e c with
     | some o'=>rw[yQi he] at h ⊢;exact h
     | none=>rw[yQo he] at h ⊢;exact hsub c o h
    have hoj:own (join s e) tg ys.length 1 (join st e):=by
     rcases hown with h|h|⟨g,h1,h2,h3⟩
     ·exact .inl h
     ·exact .inr (.inl h)
     ·exact .inr (.inr ⟨g,h1,yZn hd' _ _ h2,by rw[yQo (zQe hd' h2)];exact h3⟩)
    rw[xZ1];refine zZg (GoJ a b p tg ys (join st e) (join s e)) ?_ ?_ _ _ _ _ _ _ rfl ?_
    ·intro listed ad fr st1 ds hz6 hJ i hi;replace hz6:listed.size=6:=hz6;obtain⟨h00,o,ho,hdep⟩:=mem_ready.1 hi;have his:i<6:=(Array.getElem?_eq_some_iff.1 ho).1;have hfl:listed.getD i false=false:=by
      rw[Array.getD_eq_getD_getElem?,Array.getElem?_eq_getElem (by omega)] at h00 ⊢;exact h00
     have e':∀j,(listed.setIfInBounds i true).getD j false=if i=j then true else listed.getD j false:=λj=>xQu (by omega)
     obtain⟨had,rfl,f3,f4,g0,g1,g2,g3,g4,g5,g6,g7,g8⟩:=hJ;rcases (show i=0\/i=1\/i=2\/i=3\/i=4\/i=5 by omega) with rfl|rfl|rfl|rfl|rfl|rfl
     all_goals obtain rfl:_=o:=Option.some.inj ho
     ·have h4:listed.getD 4 false=false:=by
       cases h:listed.getD 4 false with
       | false=>rfl
       | true=>rw[(g4 h).1] at hfl;cases hfl
      have h5:listed.getD 5 false=true->False:=λh=>by rw[g7 h] at h4;cases h4
      obtain rfl:=g5 h4;simp only[go_sem,zE,zB,zA,zM,zS,zL,reduceCtorEq,yZ4,had,f3,pt,r3];simp only[GoJ,e',zE,iteT,iteF,h4,reduceCtorEq,false_imp_iff,true_imp_iff];exact⟨yXt had _,trivial,f3,f4,rfl,g1,g2,g3,trivial,trivial,trivial,h5,g8⟩
     ·simp only[go_sem,zE,zB,zA,zM,zS,zL,reduceCtorEq,yZ4,had,f4,hiv];simp only[GoJ,e',zE,iteT,iteF,reduceCtorEq,false_imp_iff,true_imp_iff];exact⟨yXt had _,trivial,f3,f4,g0,rfl,g2,g3,g4,g5,g6,g7,g8⟩
     ·have h4:listed.getD 4 false=false:=by
       cases h:listed.getD 4 false with
       | false=>rfl
       | true=>rw[(g4 h).2] at hfl;cases hfl
      have h5:listed.getD 5 false=true->False:=λh=>by rw[g7 h] at h4;cases h4
      obtain rfl:=g5 h4;replace g1:=g1 (hdep ⟨1,.data⟩ (by simp) rfl);simp only[go_sem,zE,zB,zA,zM,zS,zL,reduceCtorEq,yZ4,had,g1,hiv];refine hcl.mono ?_;rintro _ _ ⟨⟨t',rfl,ht'⟩,rfl⟩;simp only[go_sem,zE,zB,zA,zM,zS,zL,reduceCtorEq];simp only[GoJ,e',zE,iteT,iteF,h4,reduceCtorEq,false_imp_iff,true_imp_iff];exact⟨yXt had _,trivial,f3,f4,g0,λ_=>g1,⟨t',ht',rfl⟩,g3,trivial,trivial,trivial,h5,λ_=>trivial⟩
     ·obtain⟨t',ht',g2'⟩:=g2 (hdep ⟨2,.data⟩ (by simp) rfl);simp only[go_sem,zE,zB,zA,zM,zS,zL,reduceCtorEq,yZ4,had,g2'];simp only[GoJ,e',zE,iteT,iteF,reduceCtorEq,false_imp_iff,true_imp_iff];exact yQm rfl ⟨yXt had _,trivial,f3,f4,g0,g1,g2,⟨t',ht',rfl⟩,g4,g5,g6,g7,hdep ⟨2,.data⟩ (by simp) rfl⟩
     ·replace g0:=g0 (hdep ⟨0,.data⟩ (by simp) rfl);obtain⟨t',ht',g3'⟩:=g3 (hdep ⟨3,.data⟩ (by simp) rfl);have h2:=g8 (hdep ⟨3,.data⟩ (by simp) rfl);obtain rfl:=g5 hfl;simp only[go_sem,zE,zB,zA,zM,zS,zL,reduceCtorEq,yZ4,had,g0,g3'];refine yJh hoj rfl hsj rfl (by simp[fits,IV.one]) (by simp only;omega) (by omega) λu st4 o4 s4 k4 _=>?_;simp only[go_sem,zE,zB,zA,zM,zS,zL,reduceCtorEq,GoJ,e',iteT,iteF,false_imp_iff,true_imp_iff];exact⟨yXt had _,f3,f4,λ_=>g0,g1,g2,λ_=>⟨t',ht',g3'⟩,⟨hdep ⟨0,.data⟩ (by simp) rfl,h2⟩,⟨t',u,ht',rfl,o4,s4,_,k4 b _ r3 nofun,λh=>by rw[g7 h] at hfl;cases hfl⟩,λ_=>trivial,g8⟩
     ·obtain⟨t',u,ht',f23,ho1,ho2,c,hc,_⟩:=g6 (hdep ⟨4,.data⟩ (by simp) rfl);have h4:=hdep ⟨4,.data⟩ (by simp) rfl;simp only[go_sem,zE,zB,zA,zM,zS,zL,reduceCtorEq,yZ4,had,f23,f3,pt,hc];simp only[GoJ,e',zE,iteT,iteF,h4,reduceCtorEq,false_imp_iff,true_imp_iff];exact⟨had,trivial,f3,f4,g0,g1,g2,g3,g4 h4,trivial,⟨t',u,ht',f23,ho1.mono λg hg _=>by rw[yQ7 (λh=>by rw[h,hc] at hg;cases hg)];exact hg,yQa ho2 hjb,_,ISt.put_same ..,rfl⟩,trivial,g8⟩
    ·intro listed ad fr st1 ds hz6 hr hJ;have hl:=zJj (by decide) hz6 hr;obtain⟨_,rfl,_,_,_,_,_,_,_,_,g6,_,_⟩:=hJ;obtain⟨t',u,ht',_,ho1,ho2,c,hc,hcc⟩:=g6 (hl 4 (by decide));obtain rfl:=hcc (hl 5 (by decide));obtain⟨s1,d1,rfl,k1⟩:=xGo (join_sub'.trans ho2);have hjn:∀c,(join st e) c=none->e c=none/\st c=none:=λc h=>by
      cases he:e c with
      | some o=>rw[yQi he] at h;cases h
      | none=>rw[yQo he] at h;exact⟨rfl,h⟩
     simp only[go_sem,zE,zB,zA,zM,zS,zL,reduceCtorEq];refine⟨s1,⟨u,_,by rw[k1 b (zQe hd' c3)];exact hc,?_,λc o h=>?_,hys.snoc ⟨t',rfl,ht'⟩⟩,d1,rfl⟩
     ·rw[lLa];rcases ho1 with⟨h,_⟩|h|⟨g,h1,h2,h3⟩
      ·omega
      ·exact .inr (.inl h)
      ·obtain⟨j1,j2⟩:=hjn g h3;exact .inr (.inr ⟨g,h1,by rw[k1 g j1];exact h2,j2⟩)
     ·have he:=zQe hd' (hsub c o h);rw[k1 c he];exact ho2 c o (by rw[yQo he];exact h)
    ·exact⟨λ_=>rfl,rfl,rfl,rfl,nofun,nofun,nofun,nofun,nofun,λ_=>rfl,nofun,nofun,nofun⟩
   ·have d1:decide ((xs'.length:Int)=0)=false:=dEf (by have:=List.length_pos_iff.2 h1;omega);rw[if_neg (by simp[xXq,h1])];simp only[go_sem,zE,zB,zA,zM,zS,zL,reduceCtorEq,fits,d0,d1,hiv];intro _;exact⟨s,⟨tg,ys,c3,hown,hsub,hys⟩,hd,rfl⟩
  ·have d0:decide ((rule':Int)=0)=false:=dEf (by omega);rw[if_neg (by simp[xXq,h0])];simp only[go_sem,zE,zB,zA,zM,zS,zL,reduceCtorEq,fits,d0,hiv];exact⟨s,⟨tg,ys,c3,hown,hsub,hys⟩,hd,rfl⟩
 ·rintro s r ⟨tg,ys,c3,hown,hsub,hys⟩;rw[lTl] at hys;simp only[go_sem,zE,zB,zA,zM,zS,zL,reduceCtorEq,c3,fits];exact yQg hsub ⟨⟨tg,ys,rfl,hown.es,hys⟩,rfl⟩
 ·rintro e s r ⟨⟩
def okP:Tr->List Nat->Prop
 | _,[]=>True
 | .mk _ _ _ _ _ sub,i::p=>∃s,sub[i]?=some s/\okP s p
theorem zJq:∀ {p l:List Nat}{t:Tr},okP t (p++l)->okP (atT t p) l/\atT t (p++l)=atT (atT t p) l
 | [],l,t,h=>⟨h,by simp only[List.nil_append,atT]⟩
 | i::p,l,.mk r s f u n sub,h=>by
  obtain⟨z,h1,h2⟩:=h;simp only[List.cons_append,atT,h1];exact zJq h2
mutual
theorem xVm:∀(q:List Nat)(t:Tr)(p:List Nat)(z:Tr),(p,z)∈t.walk q->∃p',p=q++p'/\okP t p'/\atT t p'=z
 | q,.mk r s f u n sub,p,z,h=>by
  simp only[Tr.walk,List.mem_cons,Prod.mk.injEq] at h;rcases h with⟨rfl,rfl⟩|h
  ·exact⟨[],by simp,trivial,rfl⟩
  ·obtain⟨i,a,p',_,h1,h2,h3,h4⟩:=xQ3 q 0 sub p z h;rw[Nat.sub_zero] at h2;exact⟨i::p',h1,⟨a,h2,h3⟩,by simp only[atT,h2];exact h4⟩
theorem xQ3:∀(q:List Nat)(j:Nat)(l:List Tr)(p:List Nat)(z:Tr),(p,z)∈yQn q j l->∃i a p',j<=i/\p=q++i::p'/\l[i-j]?=some a/\okP a p'/\atT a p'=z
 | _,_,[],p,z,h=>by simp[yQn] at h
 | q,j,a::l,p,z,h=>by
  simp only[yQn,List.mem_append] at h;rcases h with h|h
  ·obtain⟨p',h1,h2,h3⟩:=xVm (q++[j]) a p z h;exact⟨j,a,p',Nat.le_refl _,by rw[h1,List.append_assoc];rfl,by simp,h2,h3⟩
  ·obtain⟨i,b,p',h0,h1,h2,h3,h4⟩:=xQ3 q (j+1) l p z h;exact⟨i,b,p',by omega,h1,by rw[show i-j=i-(j+1)+1 by omega];exact h2,h3,h4⟩
end
theorem xVn:∀ {p l:List Nat}{t:Tr},okP t (p++l)->okP t p
 | [],_,_,_=>trivial
 | i::p,l,.mk r s f u n sub,h=>by
  obtain⟨z,h1,h2⟩:=h;exact⟨z,h1,xVn h2⟩
abbrev z12:List IV:=[.raw (.int .u8 0),.sl ⟨true,.nil,0⟩ [],.sl ⟨true,.nil,0⟩ [],.raw (.int .u8 0),.raw (.string ⟨#[]⟩),.sl ⟨true,.nil,0⟩ [],.sl ⟨true,.nil,0⟩ [],.raw (.bool false),.raw (.string ⟨#[]⟩),.sl ⟨true,.nil,0⟩ [],.raw (.string ⟨#[]⟩),.sl ⟨true,.nil,0⟩ []]
theorem at_c (t:Tr)(x:IV)(hx:IsTr t x)(p:List Nat)(hp:okP t p)(tg:Tag)(htg:okEs tg 1)(hl:p.length<=1000000)(st:ISt):ICall prog gl 29 [x,.sl tg (plI p)] st (λr st'=>IsTr (atT t p) r/\st'=st):=by
 have hx0:=hx;obtain⟨rule,tl,xl,tr,xr,op,fn,ta,xa,tb,xb,v,un,tu,xu,n,ts,xs,rfl⟩:=yX8 hx;refine iI func29 ?_;simp only[go_sem,zE,zB,zA,zM,zS,zL,reduceCtorEq,fits,yXn];intro _;refine LoopC.ctr p.length (λk fr st' ds=>(∃c,fr 2=.box c/\IsTr (atT t (p.take k)) (.agg c))/\st'=st/\fr 4=.box z12/\fr 7=.iv (.sl tg (plI p))/\fr 8=.iv (.raw (.int .i64 (p.length:Int)))/\fr 9=.iv (.raw (.int .i64 (k:Int)))/\ds=[]) ?_ ?_ ?_
 ·simp only[go_sem,zE,zB,zA,zM,zS,zL,reduceCtorEq];exact⟨⟨_,rfl,hx0⟩,rfl⟩
 ·rintro k fr st1 _ hlk ⟨⟨c,f2,hc⟩,rfl,f4,f7,f8,f9,rfl⟩;obtain⟨i,hi⟩:=yQ1 hlk;have hgi:=wZ5 hi;have hsp:okP t (p.take k++i::p.drop (k+1)):=by
   have:=List.take_append_drop k p;rw[List.drop_eq_getElem_cons hlk,(lGs hi).2] at this;rw[this];exact hp
  obtain⟨h1,_⟩:=zJq hsp;have hat:atT t (p.take (k+1))=atT (atT t (p.take k)) [i]:=by
   rw[yQ8 hi];have:=zJq (p:=p.take k) (l:=[i]) (t:=t) (by
    have hs2:okP t ((p.take k++[i])++p.drop (k+1)):=by rw[List.append_assoc];exact hsp
    exact xVn hs2)
   exact this.2
  generalize atT t (p.take k)=z at h1 hc hat;obtain⟨rule',sq',f',u',n',sub'⟩:=z;obtain⟨z,hz,_⟩:=h1;obtain⟨tl',xl',tr',xr',op',fn',ta',xa',tb',xb',v',un',tu',xu',ts',xs',hce,_,_,_,_,_,_,_,e3,i3⟩:=hc.mk;injection hce with hce;subst hce;obtain⟨y,hy,hyt⟩:=i3.get hz;have hy0:=hyt;obtain⟨rule2,tl2,xl2,tr2,xr2,op2,fn2,ta2,xa2,tb2,xb2,v2,un2,tu2,xu2,n2,ts2,xs2,rfl⟩:=yX8 hyt;simp only[go_sem,zE,zB,zA,zM,zS,zL,reduceCtorEq,f2,f4,f7,f8,f9,fits,lt_i hlk,yQ4 htg,yQ4 e3,iNn,hgi,hy,yQd hlk (show p.length<=281474976710656 by omega)];rw[hat];exact⟨_,rfl,by simp only[atT,hz];exact hy0⟩
 ·rintro fr st1 _ ⟨⟨c,f2,hc⟩,rfl,f4,f7,f8,f9,rfl⟩;rw[lTl] at hc;obtain⟨rule',tl',xl',tr',xr',op',fn',ta',xa',tb',xb',v',un',tu',xu',n',ts',xs',hce⟩:=yX8 hc;injection hce with hce;subst hce;simp only[go_sem,zE,zB,zA,zM,zS,zL,reduceCtorEq,f2,f4,f8,f9,z12,fits,yQl (nLi _)];exact yQ0 ⟨hc,rfl⟩
