/- Walks: Alpha; normal's closure. -/
import Derived.Test.YtabhgbojkjcfjaaGreatDoorJY
set_option linter.all false
open Nat renaming reduceEqDiff → zE,reduceBEq → zB,reduceAdd → zA,reduceMul → zM,reduceLeDiff → zL
namespace Go.Proofs.Tryz
open Go Go.Iv
set_option maxRecDepth 4000
variable (gl:Nat->Option IV)
theorem vXt (G:Gl gl)(f g:Fm)(x y:IV)(J:IsFm f x)(F:IsFm g y)(hs:f.size<=1000000)(O:g.size<=1000000)(st:ISt) :
  ICall prog gl 143 [x,y] st (λr st'=>r=.raw (.bool (yKz f g))/\st'=st):=by
 have h1:=λst=>zWq gl G f x J st hs;have h2:=λst=>zWq gl G g y F st O;have h3:=λhf hg st=>vXm gl f g [] ⟨true,.nil,0⟩ (.inl ⟨rfl,rfl⟩) (by simp;omega) x y J F hf hg st;obtain⟨o,n,us,sub⟩:=f;obtain⟨t1,x1,t2,x2,rfl,_⟩:=J.mk;obtain⟨o',W,E,D⟩:=g;obtain⟨t3,x3,t4,x4,rfl,_⟩:=F.mk;refine iI func143 ?_;simp only[go_sem,zE,zA,zL];refine (h1 _).mono ?_;rintro _ st ⟨rfl,rfl⟩;cases U:(Fm.mk o n us sub).right
 ·simp only[go_sem,zE];exact yQ0 ⟨by simp[yKz,U],rfl⟩
 ·simp only[go_sem,zE,zA,zL];refine (h2 _).mono ?_;rintro _ st ⟨rfl,rfl⟩;cases A:(Fm.mk o' W E D).right
  ·simp only[go_sem,zE];exact yQ0 ⟨by simp[yKz,A],rfl⟩
  ·simp only[go_sem,zE,zA,zL];refine (h3 (yK1 U).1 (yK1 A).1 _).mono ?_;rintro _ st ⟨rfl,rfl⟩;simp only[go_sem,zE];exact yQ0 ⟨by simp[yKz,U,A],rfl⟩
theorem vZ3 {l:Ar}{j:Nat}{p:ByteArray×ByteArray}{nm:ByteArray}(h:l[j]?=some p)(hp:p.1=nm)(F:∀q∈l.drop (j+1),q.1≠nm):renF l.reverse nm=some (.mk true p.2 []):=by
 have A:=(lGs h).1;have D:l=l.take j++p::l.drop (j+1):=by
  conv=>lhs;rw[<- List.take_append_drop j l,List.drop_eq_getElem_cons A,(lGs h).2]
 unfold renF;rw[D,List.reverse_append,List.reverse_cons,List.append_assoc,List.find?_append];have h1:(l.drop (j+1)).reverse.find? (λp=>decide (p.1=nm))=none:=by
  rw[List.find?_eq_none];intro q E;simpa using F q (List.mem_reverse.1 E)
 rw[h1,Option.none_or,List.find?_append];simp[hp]
theorem wXg {l:Ar}{nm:ByteArray}(D:∀q∈l,q.1≠nm):renF l.reverse nm=none:=by
 unfold renF;rw[Option.map_eq_none_iff,List.find?_eq_none];intro q A;simpa using D q (List.mem_reverse.1 A)
theorem wXv (nm:ByteArray)(b:Nat)(l:Ar)(tl:Tag)(htl:okEs tl 2)(hll:l.length<=1099511627776)(st:ISt)(O:st b=some (.box [.sl tl (arI l)])) :
  ICall prog gl 235 [.raw (.string nm),.raw (.pointer (some ⟨b,0,none⟩))] st (wGg (renF l.reverse) nm st):=by
 have F:IntKind.i64.wrap ((l.length:Int)-1)=(l.length:Int)-1:=by rw[w64]<;>omega
 refine iI func235 ?_;simp only[go_sem,zE,O,yKk,F];intros;refine LoopC.ctr l.length (λk fr st' ds=>(∀q∈l.drop (l.length-k),q.1≠nm)/\fr 0=.iv (.raw (.string nm))/\fr 1=.iv (.raw (.pointer (some ⟨b,0,none⟩)))/\fr 3=.box [.raw (.bool false),.raw (.string ⟨#[]⟩),.sl ⟨true,.nil,0⟩ []] /\
  fr 5=.iv (.raw (.int .i64 (((l.length-k:Nat):Int)-1)))/\st'=st/\ds=[]) ?_ ?_ ?_
 ·simp only[go_sem,zE,reduceCtorEq];simp
 ·rintro k fr st _ W ⟨E,f0,f1,f3,f5,rfl,rfl⟩;obtain⟨j,U⟩:∃j,l.length-k=j+1:=⟨l.length-k-1,by omega⟩
  obtain⟨p,hp⟩:=yQ3 (show j<l.length by omega);rw[U] at E;rw[U,show (((j+1:Nat):Int)-1)=(j:Int) by omega] at f5;have D:IntKind.i64.wrap ((j:Int)-1)=(((l.length-(k+1):Nat):Int)-1):=by rw[w64]<;>omega
  have J:l.length-(k+1)=j:=by omega
  by_cases h1:p.1=nm
  ·have A:=vZ3 hp h1 E;simp only[go_sem,zE,zA,zL,reduceCtorEq,f0,f1,f3,f5,O,yQ2 htl,iNn,zQr hp,fits,dEt h1,decide_true];refine yQ0 ⟨rfl,.mk true p.2 [],_,?_,by rw[A];rfl,λw D=>by rw[A] at D;exact (Option.some.inj D).symm⟩;exact⟨_,[],rfl,by simp only[go_sem],rfl⟩
  ·simp only[go_sem,zE,reduceCtorEq,f0,f1,f3,f5,O,yQ2 htl,iNn,zQr hp,fits,dEf h1,decide_true,D];rw[J,List.drop_eq_getElem_cons (by omega),(lGs hp).2];intro q G;rcases List.mem_cons.1 G with rfl|G
   ·exact h1
   ·exact E q G
 ·rintro fr st _ ⟨E,f0,f1,f3,f5,rfl,rfl⟩;rw[Nat.sub_self,List.drop_zero] at E;rw[Nat.sub_self] at f5;have A:=wXg E;simp only[go_sem,zE,zA,zL,f3,f5,show decide ((0:Int)<=(((0:Nat):Int)-1))=false from rfl];refine yQ0 ⟨rfl,.mk false ⟨#[]⟩ [],_,?_,by rw[A];rfl,λw D=>by rw[A] at D;cases D⟩;exact⟨_,[],rfl,by simp only[go_sem],rfl⟩
theorem yKg {st s:ISt}{b:Nat}{o:Option IObj}(h:subSt st s)(D:st b=none):subSt st (s.put b o):=λc x hc=>by
 rw[ISt.put_apply];split
 ·rename_i A;rw[A,D] at hc;cases hc
 ·exact h c x hc
theorem yYs {st s:ISt}{b:Nat}(h:subSt st s)(A:s b=none):st b=none:=by
 cases D:st b with
 | none=>rfl
 | some o=>rw[h b o D] at A;cases A
theorem frontAt.sub {st st':ISt}{k:Nat}{A:Tag}(h:frontAt st k A st'):subSt st st':=by
 rcases h with⟨_,_,rfl⟩|⟨_,g,_,D,rfl⟩
 ·exact subSt.refl _
 ·exact yQe D
theorem frontAt.es {st st':ISt}{k:Nat}{A:Tag}(h:frontAt st k A st'):okEs A 3:=by
 rcases h with⟨_,h,_⟩|⟨_,g,rfl,_⟩
 ·exact .inl h
 ·exact .inr rfl
theorem frontF.sub {st st':ISt}{k:Nat}{A:Tag}(h:frontF st k A st'):subSt st st':=by
 rcases h with⟨_,_,rfl⟩|⟨_,g,_,D,rfl⟩
 ·exact subSt.refl _
 ·exact yQe D
theorem frontF.es {st st':ISt}{k:Nat}{A:Tag}(h:frontF st k A st'):okEs A 4:=by
 rcases h with⟨_,h,_⟩|⟨_,g,rfl,_⟩
 ·exact .inl h
 ·exact .inr rfl
theorem frontAt.ap {st st':ISt}{k:Nat}{A:Tag}(h:frontAt st k A st'):appT k A:=by
 rcases h with⟨_,h,_⟩|⟨D,g,rfl,_⟩
 ·exact .inl h
 ·exact .inr ⟨D,rfl,g,rfl⟩
theorem frontF.ap {st st':ISt}{k:Nat}{A:Tag}(h:frontF st k A st'):appT k A:=by
 rcases h with⟨_,h,_⟩|⟨D,g,rfl,_⟩
 ·exact .inl h
 ·exact .inr ⟨D,rfl,g,rfl⟩
theorem _root_.Go.Iv.IsFmD.of {f:Fm}{a b:Value}{t D:Tag}{A ys:List IV}(h:IsFm f (.agg [.raw a,.raw b,.sl t A,.sl D ys]))(W:appT A.length t)(J:dfrs A)(E:appT ys.length D)(G:dfrs ys) :
  IsFmD f (.agg [.raw a,.raw b,.sl t A,.sl D ys]):=by
 obtain⟨o,n,us,sub⟩:=f;obtain⟨_,_,_,_,U,O,h1,h2,h3,F⟩:=h.mk;cases U;exact IsFmD.intro O h1 (W.to h2.len.symm) ⟨h2,J⟩ h3 (E.to F.len.symm) ⟨F,G⟩
theorem zUy {st:ISt}{g E:Nat}{o:Option IObj}(A:st g=none)(D:E=g\/(st.put g o) E=none):st E=none:=by
 rcases D with rfl|D
 ·exact A
 ·by_cases h:E=g
  ·rw[h];exact A
  ·rw[yZ7 h] at D;exact D
def NM (f:Fm):Prop:=∀(x:IV) (_:IsFm f x) (fv:List ByteArray) (m:Nat) (es:List (Value×IV)) (l:Ar) (tl:Tag) (_:arT tl l) (_:fv.length+l.length+f.size<=1099511627776) (_:f.ok=true) (st:ISt) (_:st m=some (.map .str es)) (_:SetOk es fv),
 ICall prog gl 179 [x,.raw (.map (some m)),.sl tl (arI l)] st (λr st'=>IsFmD (zJr fv l.reverse f) r/\st'=st)
theorem xVb (G:Gt gl)(op:Nat)(n:ByteArray)(us:List Tm)(sub:List Fm)(IH:∀a∈sub,NM gl a):NM gl (.mk op n us sub):=by
 intro x hx fv m es l tl htl hll bi st hm aJ;obtain⟨t1,x1,t2,x2,rfl,aQ,bh,a6,aP,au⟩:=hx.mk;obtain⟨bw,az,_⟩:=yY1 bi;simp only[Fm.size] at hll;have bu:=yX0 us;have bt:=yQs sub;refine ICall.intro (c:=cf prog gl [5,54,55,57,78] []) func179 rfl (by show _<=85;simp) (by kernel_rfl) ?_;simp only[go_sem,zE,zA,zL,fits];refine λb=>yQd λhb=>?_;simp only[go_sem,a6.len];intros;refine LoopC.ctr us.length (λk fr st' ds=>(∃J ys,fr 7=.box [.raw (.int .u8 op),.raw (.string n),.sl J ys,.sl ⟨true,.nil,0⟩ []]/\IsTmsD (yZd (renF l.reverse) (us.take k)) ys/\frontAt (st.put b (some (.box [.sl tl (arI l)]))) k J st') /\
  fr 1=.iv (.raw (.map (some m)))/\fr 3=.box [.raw (.int .u8 op),.raw (.string n),.sl t1 x1,.sl t2 x2]/\fr 5=.iv (.raw (.pointer (some ⟨b,0,none⟩)))/\fr 6=.box [.raw (.int .u8 0),.raw (.string ⟨#[]⟩),.sl ⟨true,.nil,0⟩ [],.sl ⟨true,.nil,0⟩ []] /\
  fr 21=.iv (.sl t1 x1)/\fr 22=.iv (.raw (.int .i64 us.length))/\fr 23=.iv (.raw (.int .i64 k))/\ds=[]) ?_ ?_ ?_
 ·simp only[go_sem,zE];exact⟨⟨_,_,rfl,IsTmsD.nil,.inl ⟨rfl,rfl,rfl⟩⟩,rfl⟩
 ·rintro k fr ab _ U ⟨⟨J,ys,f7,hys,A⟩,f1,f3,f5,f6,f21,f22,f23,rfl⟩;obtain⟨a,ha⟩:=yQ3 U;obtain⟨x,am,hx⟩:=a6.get ha;obtain⟨h1,h2⟩:=yZg ha;have F:=xXv gl (renF l.reverse) (λnm u h=>by rw[(wWe h).1];omega) a x hx (by omega) (.func 235) [] [.raw (.pointer (some ⟨b,0,none⟩))] rfl (λi hi=>by cases hi;simp only[go_sem]) (st.put b (some (.box [.sl tl (arI l)])))
   (λnm s hs=>ICallV.of_ICall (by simp only[go_sem]) (wXv gl nm b l tl htl.es (by omega) s (hs b _ (ISt.put_same _ _ _)))) ab A.sub
  have E:ys.length=k:=by rw[hys.len,yZ5,List.length_take];omega
  have D:∀r,IsTmD (yJi (renF l.reverse) a) r->IsTmsD (yZd (renF l.reverse) (us.take (k+1))) (ys++[r]):=λr hr=>by
   rw[yQ4 ha,yX4];exact hys.append (IsTmsD.one hr)
  obtain⟨v2,n2,l2⟩:=a;obtain⟨tx,cx,rfl,bA,bD⟩:=hx.mk;simp only[go_sem,zE,zB,zA,zL,f5,f7,f21,f22,f23,lt_i U,yQ2 bh,iNn,am,fits];refine F.mono ?_;rintro r _ ⟨hr,rfl⟩;have hn:=D r hr;clear D F;generalize yJi (renF l.reverse) (.mk v2 n2 l2)=w at hr;obtain⟨v3,n3,m3⟩:=w;obtain⟨t3,x3,rfl,_⟩:=hr.mk;rcases A with⟨rfl,hc,rfl⟩|⟨hk,g0,rfl,ag,rfl⟩
  ·obtain⟨tf,tc,te⟩:=J;simp only at hc;subst hc;obtain rfl:ys=[]:=List.eq_nil_of_length_eq_zero E;simp only[go_sem,zE,zA,zM,zL,f1,f3,f5,f6,f7,f21,f22,f23,fits];refine yQv rfl λg'=>yQd λhg=>⟨⟨_,_,rfl,hn,.inr ⟨Nat.one_pos,g',rfl,hg,rfl⟩⟩,?_⟩
   rfl
  ·simp only[go_sem,zE,zA,zM,zL,f1,f3,f5,f6,f7,f21,f22,f23,fits,ISt.put_same,E];refine yQv rfl (yQv ⟨by omega,by omega⟩ λg'=>yQd λhg=>⟨⟨_,_,rfl,hn,.inr ⟨Nat.succ_pos _,g',rfl,zUy ag hg,?_⟩⟩,?_⟩)
   ·rw[yQg,yJ8 ag]
   ·rw[yQb U (show us.length<=281474976710656 by omega)]
 rintro fr ab _ ⟨⟨ta,xa,f7,ak,A⟩,f1,f3,f5,f6,f21,f22,f23,rfl⟩;rw[lTl] at ak;have O:=A.sub;have aO:=A.es;have aW:=A.ap.to (show xa.length=us.length by rw[ak.len,yZ5]);have an:ab b=some (.box [.sl tl (arI l)]):=O b _ (ISt.put_same _ _ _);have aj:ab m=some (.map .str es):=O m _ (by rw[yZ7 (yVt hm hb)];exact hm);clear A;simp only[go_sem,zE,zA,zL,f3,f22,f23,yQj (nLi _)];refine (yJs gl op n _ _ _ _ _).mono ?_;rintro _ ab ⟨rfl,rfl⟩;cases hq:isQ op
 ·simp only[go_sem,zE,f3,au.len];intros;refine LoopC.ctr sub.length (λk fr st' ds=>(∃J ys,fr 7=.box [.raw (.int .u8 op),.raw (.string n),.sl ta xa,.sl J ys]/\IsFmsD (yKo fv (l).reverse (sub.take k)) ys/\frontF (ab) k J st') /\
   fr 1=.iv (.raw (.map (some m)))/\fr 5=.iv (.raw (.pointer (some ⟨b,0,none⟩)))/\fr 6=.box [.raw (.int .u8 0),.raw (.string ⟨#[]⟩),.sl ⟨true,.nil,0⟩ [],.sl ⟨true,.nil,0⟩ []] /\
   fr 68=.iv (.sl t2 x2)/\fr 69=.iv (.raw (.int .i64 sub.length))/\fr 70=.iv (.raw (.int .i64 k))/\ds=[]) ?_ ?_ ?_
  ·simp only[go_sem,zE,f1,f5,f6,f7];exact⟨⟨_,_,rfl,IsFmsD.nil,.inl ⟨rfl,rfl,rfl⟩⟩,rfl⟩
  ·rintro k fr ac _ U ⟨⟨J,ys,f7,hys,A⟩,f1,f5,f6,f68,f69,f70,rfl⟩;obtain⟨a,ha⟩:=yQ3 U;obtain⟨x,am,hx⟩:=au.get ha;obtain⟨h1,h2⟩:=yQq ha;have aG:ac b=some (.box [.sl (tl) (arI (l))]):=A.sub b _ (by exact an);have aC:ac m=some (.map .str es):=A.sub m _ (by exact aj);have F:=IH a (lMg ha) x hx fv m es (l) (tl) (by exact htl) (by omega) (yZq az (lMg ha)) ac aC aJ;have E:ys.length=k:=by rw[hys.len,yXc,List.length_take];omega
   have D:∀r,IsFmD (zJr fv (l).reverse a) r->IsFmsD (yKo fv (l).reverse (sub.take (k+1))) (ys++[r]):=λr hr=>by
    rw[yQ4 ha,yK2];exact hys.append (IsFmsD.one hr)
   obtain⟨o2,n2,u2,s2⟩:=a;obtain⟨t3,x3,t4,x4,rfl,_⟩:=hx.mk;simp only[go_sem,zE,zB,zA,zL,f1,f5,f7,f68,f69,f70,lt_i U,yQ2 aP,iNn,am,fits,aG];refine F.mono ?_;rintro r _ ⟨hr,rfl⟩;have hn:=D r hr;clear D F;obtain⟨t5,x5,t6,x6,rfl,_⟩:=hr.mk;rcases A with⟨rfl,hc,rfl⟩|⟨hk,g0,rfl,ag,rfl⟩
   ·obtain⟨tf,tc,te⟩:=J;simp only at hc;subst hc;obtain rfl:ys=[]:=List.eq_nil_of_length_eq_zero E;simp only[go_sem,zE,zA,zM,zL,f1,f5,f6,f7,f68,f69,f70,fits];refine yQv rfl λg'=>yQd λhg=>⟨⟨_,_,rfl,hn,.inr ⟨Nat.one_pos,g',rfl,hg,rfl⟩⟩,?_⟩
    rfl
   ·simp only[go_sem,zE,zA,zM,zL,f1,f5,f6,f7,f68,f69,f70,fits,ISt.put_same,E];refine yQv rfl (yQv ⟨by omega,by omega⟩ λg'=>yQd λhg=>⟨⟨_,_,rfl,hn,.inr ⟨Nat.succ_pos _,g',rfl,zUy ag hg,?_⟩⟩,?_⟩)
    ·rw[yQg,yJ8 ag]
    ·rw[yQb U (show sub.length<=281474976710656 by omega)]
  rintro fr ac _ ⟨⟨tb,xb,f7,W,A⟩,f1,f5,f6,f68,f69,f70,rfl⟩;rw[lTl] at W;have af:=A.sub;have ax:=A.es;have aF:=A.ap.to (show xb.length=sub.length by rw[W.len,yXc]);simp only[go_sem,zE,zA,zL,f6,f7,f69,f70,yQj (nLi _)];refine yQc (st':=st) ((yQe hb).trans (O.trans af)) ⟨?_,rfl⟩;exact IsFmD.of ⟨ta,xa,tb,xb,by simp[hq],aQ,aO,ak.1,ax,by simpa[hq] using W.1⟩ aW ak.2 aF W.2
 ·simp only[go_sem,zE,f5];refine λm2=>yQd λaw=>?_;have aU:b≠m2:=yVt an aw;have aB:m≠m2:=yVt aj aw;have a7:m≠b:=yVt hm hb;have eb:∀e,(ab.put m2 (some (.map .str e))) b=some (.box [.sl tl (arI l)]):=λe=>by rw[yZ7 aU];exact an
  simp only[go_sem,eb [],yKk];intros;refine LoopC.ctr l.length (λk fr st' ds=>(∃aa,SetOk aa ((l.take k).map (·.2))/\st'=ab.put m2 (some (.map .str aa)))/\fr 1=.iv (.raw (.map (some m)))/\fr 3=.box [.raw (.int .u8 op),.raw (.string n),.sl t1 x1,.sl t2 x2]/\fr 5=.iv (.raw (.pointer (some ⟨b,0,none⟩))) /\
   fr 6=.box [.raw (.int .u8 0),.raw (.string ⟨#[]⟩),.sl ⟨true,.nil,0⟩ [],.sl ⟨true,.nil,0⟩ []]/\fr 7=.box [.raw (.int .u8 op),.raw (.string n),.sl ta xa,.sl ⟨true,.nil,0⟩ []]/\fr 10=.iv (.raw (.map (some m2))) /\
   fr 39=.iv (.sl tl (arI l))/\fr 40=.iv (.raw (.int .i64 l.length))/\fr 41=.iv (.raw (.int .i64 k))/\ds=[]) ?_ ?_ ?_
  ·simp only[go_sem,zE,f1,f3,f5,f6,f7];exact⟨⟨[],SetOk.nil,rfl⟩,rfl⟩
  ·rintro k fr _ _ U ⟨⟨aa,aI,rfl⟩,f1,f3,f5,f6,f7,f10,f39,f40,f41,rfl⟩;obtain⟨p,hp⟩:=yQ3 U;simp only[go_sem,zE,zB,zA,zL,f1,f3,f5,f6,f7,f10,f39,f40,f41,lt_i U,yQ2 htl.es,iNn,zQr hp,fits,ISt.put_same,yQb U (show l.length<=281474976710656 by omega),yQg];refine⟨_,?_,rfl⟩;rw[yQ4 hp,List.map_append];exact aI.upd p.2
  ·rintro fr _ _ ⟨⟨aa,aI,rfl⟩,f1,f3,f5,f6,f7,f10,f39,f40,f41,rfl⟩;rw[lTl] at aI;have aE:=λtg bg=>wJi gl G [(m,fv),(m2,l.map (·.2))] tg bg (by simp[allM];omega) (ab.put m2 (some (.map .str aa))) (λp hp=>by
    simp only[List.mem_cons,List.not_mem_nil,or_false] at hp;rcases hp with rfl|rfl
    ·exact⟨es,by rw[yZ7 aB];exact aj,aJ⟩
    ·exact⟨aa,ISt.put_same _ _ _,aI⟩)
   have bl:yJc (allM [(m,fv),(m2,l.map (·.2))])=yJc (fv++l.reverse.map (·.2)):=yGx λx=>by
    simp[allM]
   rw[bl] at aE;generalize aq:yJc (fv++l.reverse.map (·.2))=new at aE;simp only[go_sem,zE,zA,zM,zL,f1,f10,f40,f41,yQj (nLi _),fits,xVn];refine (aE _ (by simp only[go_sem])).mono ?_;rintro _ _ ⟨rfl,rfl⟩;rcases htl with⟨rfl,rfl⟩|⟨g0,rfl⟩
   ·simp only[go_sem,zE,zA,zM,zL,f3,f5,f7,fits,eb aa,yXn,yKk,yUe,yQ1,au.len]
    first
     | refine λg=>yQd λhg=>?_
     | refine yQv ⟨by omega,by omega⟩ λg=>yQd λhg=>?_
    have aD:st m2=none:=yYs ((yQe hb).trans O) aw;have aV:b≠g:=by
     rintro rfl;rw[yZ7 aU] at hg;rw[hg] at an;cases an
    have aS:m≠g:=by
     rintro rfl;rw[yZ7 aB] at hg;rw[hg] at aj;cases aj
    have aX:((ab.put m2 (some (.map .str aa))).put g (some (.front 1 2))) b=some (.box [.sl _ (arI [])]):=(yZ7 aV).trans (eb aa);have aK:arI []++[.agg [.raw (.string n),.raw (.string new)]]=arI ([(n,new)]):=by first|rfl|(rw[yUu];rfl)
    have ay:([(n,new)]).reverse=(n,new)::([]:Ar).reverse:=by simp
    try simp only[List.nil_append] at aK
    simp only[go_sem,zL,aX];intros;refine LoopC.ctr sub.length (λk fr st' ds=>(∃J ys,fr 7=.box [.raw (.int .u8 op),.raw (.string new),.sl ta xa,.sl J ys]/\IsFmsD (yKo fv ([(n,new)]).reverse (sub.take k)) ys/\frontF ((((ab.put m2 (some (.map .str aa))).put g (some (.front 1 2))).put b (some (.box [.sl ⟨true,.app g,2⟩ (arI ([(n,new)]))])))) k J st') /\
     fr 1=.iv (.raw (.map (some m)))/\fr 5=.iv (.raw (.pointer (some ⟨b,0,none⟩)))/\fr 6=.box [.raw (.int .u8 0),.raw (.string ⟨#[]⟩),.sl ⟨true,.nil,0⟩ [],.sl ⟨true,.nil,0⟩ []] /\
     fr 68=.iv (.sl t2 x2)/\fr 69=.iv (.raw (.int .i64 sub.length))/\fr 70=.iv (.raw (.int .i64 k))/\ds=[]) ?_ ?_ ?_
    ·simp only[go_sem,zE,f1,f5,f6];exact⟨⟨_,_,rfl,IsFmsD.nil,.inl ⟨rfl,rfl,rfl⟩⟩,rfl⟩
    ·rintro k fr ac _ U ⟨⟨J,ys,f7,hys,A⟩,f1,f5,f6,f68,f69,f70,rfl⟩;obtain⟨a,ha⟩:=yQ3 U;obtain⟨x,am,hx⟩:=au.get ha;obtain⟨h1,h2⟩:=yQq ha;have aG:ac b=some (.box [.sl (⟨true,.app g,2⟩) (arI ([(n,new)]))]):=A.sub b _ (by exact ISt.put_same _ _ _);have aC:ac m=some (.map .str es):=A.sub m _ (by rw[yZ7 a7,yZ7 aS,yZ7 aB];exact aj);have F:=IH a (lMg ha) x hx fv m es ([(n,new)]) (⟨true,.app g,2⟩) (by exact .inr ⟨g,rfl⟩) (by simp;omega) (yZq az (lMg ha)) ac aC aJ;have E:ys.length=k:=by rw[hys.len,yXc,List.length_take];omega
     have D:∀r,IsFmD (zJr fv ([(n,new)]).reverse a) r->IsFmsD (yKo fv ([(n,new)]).reverse (sub.take (k+1))) (ys++[r]):=λr hr=>by
      rw[yQ4 ha,yK2];exact hys.append (IsFmsD.one hr)
     obtain⟨o2,n2,u2,s2⟩:=a;obtain⟨t3,x3,t4,x4,rfl,_⟩:=hx.mk;simp only[go_sem,zE,zB,zA,zL,f1,f5,f7,f68,f69,f70,lt_i U,yQ2 aP,iNn,am,fits,aG];refine F.mono ?_;rintro r _ ⟨hr,rfl⟩;have hn:=D r hr;clear D F;obtain⟨t5,x5,t6,x6,rfl,_⟩:=hr.mk;rcases A with⟨rfl,hc,rfl⟩|⟨hk,g0,rfl,ag,rfl⟩
     ·obtain⟨tf,tc,te⟩:=J;simp only at hc;subst hc;obtain rfl:ys=[]:=List.eq_nil_of_length_eq_zero E;simp only[go_sem,zE,zA,zM,zL,f1,f5,f6,f7,f68,f69,f70,fits];refine yQv rfl λg'=>yQd λhg=>⟨⟨_,_,rfl,hn,.inr ⟨Nat.one_pos,g',rfl,hg,rfl⟩⟩,?_⟩
      rfl
     ·simp only[go_sem,zE,zA,zM,zL,f1,f5,f6,f7,f68,f69,f70,fits,ISt.put_same,E];refine yQv rfl (yQv ⟨by omega,by omega⟩ λg'=>yQd λhg=>⟨⟨_,_,rfl,hn,.inr ⟨Nat.succ_pos _,g',rfl,zUy ag hg,?_⟩⟩,?_⟩)
      ·rw[yQg,yJ8 ag]
      ·rw[yQb U (show sub.length<=281474976710656 by omega)]
    rintro fr ac _ ⟨⟨tb,xb,f7,W,A⟩,f1,f5,f6,f68,f69,f70,rfl⟩;rw[lTl] at W;have af:=A.sub;have ax:=A.es;have aF:=A.ap.to (show xb.length=sub.length by rw[W.len,yXc]);simp only[go_sem,zE,zA,zL,f6,f7,f69,f70,yQj (nLi _)];have aT:st g=none:=by
     refine yYs ((yQe hb).trans (O.trans (yQe aw))) (?_:(ab.put m2 (some (.map .str aa))) g=none);exact hg
    refine yQc (st':=st) ((yKg (yKg (yKg ((yQe hb).trans O) aD) aT) hb).trans af) ⟨?_,rfl⟩;refine IsFmD.of ⟨ta,xa,tb,xb,?_,aQ,aO,ak.1,ax,?_⟩ aW ak.2 aF W.2
    ·simp only[hq,if_true,aq]
    ·simp only[hq,if_true,aq];rw[ay] at W;exact W.1
   ·simp only[go_sem,zE,zA,zM,zL,reduceCtorEq,f3,f5,f7,fits,eb aa,yXn,yKk,yUe,yQ1,xGr,au.len]
    first
     | refine λg=>yQd λhg=>?_
     | refine yQv ⟨by omega,by omega⟩ λg=>yQd λhg=>?_
    have aD:st m2=none:=yYs ((yQe hb).trans O) aw;have aV:b≠g:=by
     rintro rfl;rw[yZ7 aU] at hg;rw[hg] at an;cases an
    have aS:m≠g:=by
     rintro rfl;rw[yZ7 aB] at hg;rw[hg] at aj;cases aj
    have aX:((ab.put m2 (some (.map .str aa))).put g (some (.front (l.length+1) 2))) b=some (.box [.sl _ (arI l)]):=(yZ7 aV).trans (eb aa);have aK:arI l++[.agg [.raw (.string n),.raw (.string new)]]=arI (l++[(n,new)]):=by first|rfl|(rw[yUu];rfl)
    have ay:(l++[(n,new)]).reverse=(n,new)::(l:Ar).reverse:=by simp
    try simp only[List.nil_append] at aK
    simp only[go_sem,zL,aX,aK];intros;refine LoopC.ctr sub.length (λk fr st' ds=>(∃J ys,fr 7=.box [.raw (.int .u8 op),.raw (.string new),.sl ta xa,.sl J ys]/\IsFmsD (yKo fv (l++[(n,new)]).reverse (sub.take k)) ys/\frontF ((((ab.put m2 (some (.map .str aa))).put g (some (.front (l.length+1) 2))).put b (some (.box [.sl ⟨true,.app g,2⟩ (arI (l++[(n,new)]))])))) k J st') /\
     fr 1=.iv (.raw (.map (some m)))/\fr 5=.iv (.raw (.pointer (some ⟨b,0,none⟩)))/\fr 6=.box [.raw (.int .u8 0),.raw (.string ⟨#[]⟩),.sl ⟨true,.nil,0⟩ [],.sl ⟨true,.nil,0⟩ []] /\
     fr 68=.iv (.sl t2 x2)/\fr 69=.iv (.raw (.int .i64 sub.length))/\fr 70=.iv (.raw (.int .i64 k))/\ds=[]) ?_ ?_ ?_
    ·simp only[go_sem,zE,f1,f5,f6];exact⟨⟨_,_,rfl,IsFmsD.nil,.inl ⟨rfl,rfl,rfl⟩⟩,rfl⟩
    ·rintro k fr ac _ U ⟨⟨J,ys,f7,hys,A⟩,f1,f5,f6,f68,f69,f70,rfl⟩;obtain⟨a,ha⟩:=yQ3 U;obtain⟨x,am,hx⟩:=au.get ha;obtain⟨h1,h2⟩:=yQq ha;have aG:ac b=some (.box [.sl (⟨true,.app g,2⟩) (arI (l++[(n,new)]))]):=A.sub b _ (by exact ISt.put_same _ _ _);have aC:ac m=some (.map .str es):=A.sub m _ (by rw[yZ7 a7,yZ7 aS,yZ7 aB];exact aj);have F:=IH a (lMg ha) x hx fv m es (l++[(n,new)]) (⟨true,.app g,2⟩) (by exact .inr ⟨g,rfl⟩) (by simp;omega) (yZq az (lMg ha)) ac aC aJ;have E:ys.length=k:=by rw[hys.len,yXc,List.length_take];omega
     have D:∀r,IsFmD (zJr fv (l++[(n,new)]).reverse a) r->IsFmsD (yKo fv (l++[(n,new)]).reverse (sub.take (k+1))) (ys++[r]):=λr hr=>by
      rw[yQ4 ha,yK2];exact hys.append (IsFmsD.one hr)
     obtain⟨o2,n2,u2,s2⟩:=a;obtain⟨t3,x3,t4,x4,rfl,_⟩:=hx.mk;simp only[go_sem,zE,zB,zA,zL,f1,f5,f7,f68,f69,f70,lt_i U,yQ2 aP,iNn,am,fits,aG];refine F.mono ?_;rintro r _ ⟨hr,rfl⟩;have hn:=D r hr;clear D F;obtain⟨t5,x5,t6,x6,rfl,_⟩:=hr.mk;rcases A with⟨rfl,hc,rfl⟩|⟨hk,g0,rfl,ag,rfl⟩
     ·obtain⟨tf,tc,te⟩:=J;simp only at hc;subst hc;obtain rfl:ys=[]:=List.eq_nil_of_length_eq_zero E;simp only[go_sem,zE,zA,zM,zL,f1,f5,f6,f7,f68,f69,f70,fits];refine yQv rfl λg'=>yQd λhg=>⟨⟨_,_,rfl,hn,.inr ⟨Nat.one_pos,g',rfl,hg,rfl⟩⟩,?_⟩
      rfl
     ·simp only[go_sem,zE,zA,zM,zL,f1,f5,f6,f7,f68,f69,f70,fits,ISt.put_same,E];refine yQv rfl (yQv ⟨by omega,by omega⟩ λg'=>yQd λhg=>⟨⟨_,_,rfl,hn,.inr ⟨Nat.succ_pos _,g',rfl,zUy ag hg,?_⟩⟩,?_⟩)
      ·rw[yQg,yJ8 ag]
      ·rw[yQb U (show sub.length<=281474976710656 by omega)]
    rintro fr ac _ ⟨⟨tb,xb,f7,W,A⟩,f1,f5,f6,f68,f69,f70,rfl⟩;rw[lTl] at W;have af:=A.sub;have ax:=A.es;have aF:=A.ap.to (show xb.length=sub.length by rw[W.len,yXc]);simp only[go_sem,zE,zA,zL,f6,f7,f69,f70,yQj (nLi _)];have aT:st g=none:=by
     refine yYs ((yQe hb).trans (O.trans (yQe aw))) (?_:(ab.put m2 (some (.map .str aa))) g=none);exact hg
    refine yQc (st':=st) ((yKg (yKg (yKg ((yQe hb).trans O) aD) aT) hb).trans af) ⟨?_,rfl⟩;refine IsFmD.of ⟨ta,xa,tb,xb,?_,aQ,aO,ak.1,ax,?_⟩ aW ak.2 aF W.2
    ·simp only[hq,if_true,aq]
    ·simp only[hq,if_true,aq];rw[ay] at W;exact W.1
