/- Walks: Alpha; normal's closure. -/
import Derived.Test.YtclkffdkahljeaaGreatDoorJY
set_option linter.all false
open Nat renaming reduceEqDiff → zE,reduceBEq → zB,reduceAdd → zA,reduceMul → zM,reduceLeDiff → zL
namespace Go.Proofs.Tryz
open Go Go.Iv
set_option maxRecDepth 4000
variable (gl:Nat->Option IV)
theorem vZv (G:Gl gl)(f g:Fm)(x y:IV)(hx:IsFm f x)(J:IsFm g y)(hs:f.size<=1000000)(O:g.size<=1000000)(st:ISt) :
  ICall prog gl 88 [x,y] st (λr st'=>r=.raw (.bool (zQl f g))/\st'=st):=by
 have h1:=λst=>zV3 gl G f x hx st hs;have h2:=λst=>zV3 gl G g y J st O;have h3:=λhf hg st=>vZh gl f g [] ⟨true,.nil,0⟩ (.inl ⟨rfl,rfl⟩) (by simp;omega) x y hx J hf hg st;obtain⟨o,n,us,sub⟩:=f;obtain⟨t1,x1,t2,x2,rfl,_⟩:=hx.mk;obtain⟨o',n',E,D⟩:=g;obtain⟨t3,x3,t4,x4,rfl,_⟩:=J.mk;refine iI func88 ?_;simp only[go_sem,zE,zA,zL];refine (h1 _).mono ?_;rintro _ st ⟨rfl,rfl⟩;cases U:(Fm.mk o n us sub).right
 ·simp only[go_sem,zE];exact yQ0 ⟨by simp[zQl,U],rfl⟩
 ·simp only[go_sem,zE,zA,zL];refine (h2 _).mono ?_;rintro _ st ⟨rfl,rfl⟩;cases A:(Fm.mk o' n' E D).right
  ·simp only[go_sem,zE];exact yQ0 ⟨by simp[zQl,A],rfl⟩
  ·simp only[go_sem,zE,zA,zL];refine (h3 (yJe U).1 (yJe A).1 _).mono ?_;rintro _ st ⟨rfl,rfl⟩;simp only[go_sem,zE];exact yQ0 ⟨by simp[zQl,U,A],rfl⟩
theorem wUu {l:Ar}{j:Nat}{p:ByteArray×ByteArray}{nm:ByteArray}(h:l[j]?=some p)(hp:p.1=nm)(E:∀q∈l.drop (j+1),q.1≠nm):renF l.reverse nm=some (.mk true p.2 []):=by
 have A:=(lGs h).1;have hs:l=l.take j++p::l.drop (j+1):=by
  conv=>lhs;rw[<- List.take_append_drop j l,List.drop_eq_getElem_cons A,(lGs h).2]
 unfold renF;rw[hs,List.reverse_append,List.reverse_cons,List.append_assoc,List.find?_append];have h1:(l.drop (j+1)).reverse.find? (λp=>decide (p.1=nm))=none:=by
  rw[List.find?_eq_none];intro q D;simpa using E q (List.mem_reverse.1 D)
 rw[h1,Option.none_or,List.find?_append];simp[hp]
theorem wQr {l:Ar}{nm:ByteArray}(D:∀q∈l,q.1≠nm):renF l.reverse nm=none:=by
 unfold renF;rw[Option.map_eq_none_iff,List.find?_eq_none];intro q A;simpa using D q (List.mem_reverse.1 A)
theorem wZ6 (nm:ByteArray)(b:Nat)(l:Ar)(tl:Tag)(htl:okEs tl 2)(hll:l.length<=1099511627776)(st:ISt)(hb:st b=some (.box [.sl tl (arI l)])) :
  ICall prog gl 150 [.raw (.string nm),.raw (.pointer (some ⟨b,0,none⟩))] st (wY9 (renF l.reverse) nm st):=by
 have J:IntKind.i64.wrap ((l.length:Int)-1)=(l.length:Int)-1:=by rw[w64]<;>omega
 refine iI func150 ?_;simp only[go_sem,zE,hb,yJa,J];intros;refine LoopC.ctr l.length (λk fr st' ds=>(∀q∈l.drop (l.length-k),q.1≠nm)/\fr 0=.iv (.raw (.string nm))/\fr 1=.iv (.raw (.pointer (some ⟨b,0,none⟩)))/\fr 3=.box [.raw (.bool false),.raw (.string ⟨#[]⟩),.sl ⟨true,.nil,0⟩ []] /\
  fr 5=.iv (.raw (.int .i64 (((l.length-k:Nat):Int)-1)))/\st'=st/\ds=[]) ?_ ?_ ?_
 ·simp only[go_sem,zE,reduceCtorEq];simp
 ·rintro k fr st _ ac ⟨E,f0,f1,f3,f5,rfl,rfl⟩;obtain⟨j,hj⟩:∃j,l.length-k=j+1:=⟨l.length-k-1,by omega⟩
  obtain⟨p,hp⟩:=yQ1 (show j<l.length by omega);rw[hj] at E;rw[hj,show (((j+1:Nat):Int)-1)=(j:Int) by omega] at f5;have D:IntKind.i64.wrap ((j:Int)-1)=(((l.length-(k+1):Nat):Int)-1):=by rw[w64]<;>omega
  have U:l.length-(k+1)=j:=by omega
  by_cases h1:p.1=nm
  ·have A:=wUu hp h1 E;simp only[go_sem,zE,zA,zL,reduceCtorEq,f0,f1,f3,f5,hb,yQ3 htl,iNn,yUe hp,fits,dEt h1,decide_true];refine yQ0 ⟨rfl,.mk true p.2 [],_,?_,by rw[A];rfl,λw D=>by rw[A] at D;exact (Option.some.inj D).symm⟩;exact⟨_,[],rfl,by simp only[go_sem],rfl⟩
  ·simp only[go_sem,zE,reduceCtorEq,f0,f1,f3,f5,hb,yQ3 htl,iNn,yUe hp,fits,dEf h1,decide_true,D];rw[U,List.drop_eq_getElem_cons (by omega),(lGs hp).2];intro q O;rcases List.mem_cons.1 O with rfl|O
   ·exact h1
   ·exact E q O
 ·rintro fr st _ ⟨E,f0,f1,f3,f5,rfl,rfl⟩;rw[Nat.sub_self,List.drop_zero] at E;rw[Nat.sub_self] at f5;have A:=wQr E;simp only[go_sem,zE,zA,zL,f3,f5,show decide ((0:Int)<=(((0:Nat):Int)-1))=false from rfl];refine yQ0 ⟨rfl,.mk false ⟨#[]⟩ [],_,?_,by rw[A];rfl,λw D=>by rw[A] at D;cases D⟩;exact⟨_,[],rfl,by simp only[go_sem],rfl⟩
theorem yJ7 {st s:ISt}{b:Nat}{o:Option IObj}(h:subSt st s)(D:st b=none):subSt st (s.put b o):=λc x hc=>by
 rw[ISt.put_apply];split
 ·rename_i A;rw[A,D] at hc;cases hc
 ·exact h c x hc
theorem yWn {st s:ISt}{b:Nat}(h:subSt st s)(A:s b=none):st b=none:=by
 cases D:st b with
 | none=>rfl
 | some o=>rw[h b o D] at A;cases A
theorem frontAt.sub {st st':ISt}{k:Nat}{A:Tag}(h:frontAt st k A st'):subSt st st':=by
 rcases h with⟨_,_,rfl⟩|⟨_,g,_,D,rfl⟩
 ·exact subSt.refl _
 ·exact yQa D
theorem frontAt.es {st st':ISt}{k:Nat}{A:Tag}(h:frontAt st k A st'):okEs A 3:=by
 rcases h with⟨_,h,_⟩|⟨_,g,rfl,_⟩
 ·exact .inl h
 ·exact .inr rfl
theorem frontF.sub {st st':ISt}{k:Nat}{A:Tag}(h:frontF st k A st'):subSt st st':=by
 rcases h with⟨_,_,rfl⟩|⟨_,g,_,D,rfl⟩
 ·exact subSt.refl _
 ·exact yQa D
theorem frontF.es {st st':ISt}{k:Nat}{A:Tag}(h:frontF st k A st'):okEs A 4:=by
 rcases h with⟨_,h,_⟩|⟨_,g,rfl,_⟩
 ·exact .inl h
 ·exact .inr rfl
theorem frontAt.ap {st st':ISt}{k:Nat}{A:Tag}(h:frontAt st k A st'):appT k A:=by
 rcases h with⟨_,h,_⟩|⟨D,g,rfl,_⟩
 ·exact .inl h
 ·exact .inr ⟨D,rfl,g,rfl⟩
theorem frontF.ap {st st':ISt}{k:Nat}{A:Tag}(h:frontF st k A st'):appT k A:=by
 rcases h with⟨_,h,_⟩|⟨D,g,rfl,_⟩
 ·exact .inl h
 ·exact .inr ⟨D,rfl,g,rfl⟩
theorem _root_.Go.Iv.IsFmD.of {f:Fm}{a b:Value}{t D:Tag}{A ys:List IV}(h:IsFm f (.agg [.raw a,.raw b,.sl t A,.sl D ys]))(ha:appT A.length t)(hx:dfrs A)(E:appT ys.length D)(O:dfrs ys) :
  IsFmD f (.agg [.raw a,.raw b,.sl t A,.sl D ys]):=by
 obtain⟨o,n,us,sub⟩:=f;obtain⟨_,_,_,_,he,U,h1,h2,h3,J⟩:=h.mk;cases he;exact IsFmD.intro U h1 (ha.to h2.len.symm) ⟨h2,hx⟩ h3 (E.to J.len.symm) ⟨J,O⟩
theorem zYv {st:ISt}{g E:Nat}{o:Option IObj}(A:st g=none)(D:E=g\/(st.put g o) E=none):st E=none:=by
 rcases D with rfl|D
 ·exact A
 ·by_cases h:E=g
  ·rw[h];exact A
  ·rw[yQ5 h] at D;exact D
def NM (f:Fm):Prop:=∀(x:IV) (_:IsFm f x) (fv:List ByteArray) (m:Nat) (es:List (Value×IV)) (l:Ar) (tl:Tag) (_:arT tl l) (_:fv.length+l.length+f.size<=1099511627776) (_:f.ok=true) (st:ISt) (_:st m=some (.map .str es)) (_:SetOk es fv),
 ICall prog gl 117 [x,.raw (.map (some m)),.sl tl (arI l)] st (λr st'=>IsFmD (zXb fv l.reverse f) r/\st'=st)
theorem xJ0 (G:Gt gl)(op:Nat)(n:ByteArray)(us:List Tm)(sub:List Fm)(IH:∀a∈sub,NM gl a):NM gl (.mk op n us sub):=by
 intro x hx fv m es l tl htl hll bi st hm aK;obtain⟨t1,x1,t2,x2,rfl,aQ,bh,a6,aO,aw⟩:=hx.mk;obtain⟨bw,aA,_⟩:=zJp bi;simp only[Fm.size] at hll;have bu:=yJv us;have bt:=yZk sub;refine ICall.intro (c:=cf prog gl [5,54,55,57,78] []) func117 rfl (by show _<=85;simp) (by kernel_rfl) ?_;simp only[go_sem,zE,zA,zL,fits];refine λb=>yQ8 λhb=>?_;simp only[go_sem,a6.len];intros;refine LoopC.ctr us.length (λk fr st' ds=>(∃O ys,fr 7=.box [.raw (.int .u8 op),.raw (.string n),.sl O ys,.sl ⟨true,.nil,0⟩ []]/\IsTmsD (yX5 (renF l.reverse) (us.take k)) ys/\frontAt (st.put b (some (.box [.sl tl (arI l)]))) k O st') /\
  fr 1=.iv (.raw (.map (some m)))/\fr 3=.box [.raw (.int .u8 op),.raw (.string n),.sl t1 x1,.sl t2 x2]/\fr 5=.iv (.raw (.pointer (some ⟨b,0,none⟩)))/\fr 6=.box [.raw (.int .u8 0),.raw (.string ⟨#[]⟩),.sl ⟨true,.nil,0⟩ [],.sl ⟨true,.nil,0⟩ []] /\
  fr 21=.iv (.sl t1 x1)/\fr 22=.iv (.raw (.int .i64 us.length))/\fr 23=.iv (.raw (.int .i64 k))/\ds=[]) ?_ ?_ ?_
 ·simp only[go_sem,zE];exact⟨⟨_,_,rfl,IsTmsD.nil,.inl ⟨rfl,rfl,rfl⟩⟩,rfl⟩
 ·rintro k fr ae _ aa ⟨⟨O,ys,f7,hys,A⟩,f1,f3,f5,f6,f21,f22,f23,rfl⟩;obtain⟨a,ha⟩:=yQ1 aa;obtain⟨x,ao,hx⟩:=a6.get ha;obtain⟨h1,h2⟩:=yXf ha;have J:=xQd gl (renF l.reverse) (λnm u h=>by rw[(wVb h).1];omega) a x hx (by omega) (.func 150) [] [.raw (.pointer (some ⟨b,0,none⟩))] rfl (λi hi=>by cases hi;simp only[go_sem]) (st.put b (some (.box [.sl tl (arI l)])))
   (λnm s hs=>ICallV.of_ICall (by simp only[go_sem]) (wZ6 gl nm b l tl htl.es (by omega) s (hs b _ (ISt.put_same _ _ _)))) ae A.sub
  have E:ys.length=k:=by rw[hys.len,yZj,List.length_take];omega
  have D:∀r,IsTmD (yY7 (renF l.reverse) a) r->IsTmsD (yX5 (renF l.reverse) (us.take (k+1))) (ys++[r]):=λr hr=>by
   rw[yQ7 ha,yJg];exact hys.append (IsTmsD.one hr)
  obtain⟨v2,n2,l2⟩:=a;obtain⟨tx,cx,rfl,bB,bD⟩:=hx.mk;simp only[go_sem,zE,zB,zA,zL,f5,f7,f21,f22,f23,lt_i aa,yQ3 bh,iNn,ao,fits];refine J.mono ?_;rintro r _ ⟨hr,rfl⟩;have hn:=D r hr;clear D J;generalize yY7 (renF l.reverse) (.mk v2 n2 l2)=w at hr;obtain⟨v3,n3,m3⟩:=w;obtain⟨t3,x3,rfl,_⟩:=hr.mk;rcases A with⟨rfl,hc,rfl⟩|⟨hk,g0,rfl,ai,rfl⟩
  ·obtain⟨tf,tc,te⟩:=O;simp only at hc;subst hc;obtain rfl:ys=[]:=List.eq_nil_of_length_eq_zero E;simp only[go_sem,zE,zA,zM,zL,f1,f3,f5,f6,f7,f21,f22,f23,fits];refine yQj rfl λg'=>yQ8 λhg=>⟨⟨_,_,rfl,hn,.inr ⟨Nat.one_pos,g',rfl,hg,rfl⟩⟩,?_⟩
   rfl
  ·simp only[go_sem,zE,zA,zM,zL,f1,f3,f5,f6,f7,f21,f22,f23,fits,ISt.put_same,E];refine yQj rfl (yQj ⟨by omega,by omega⟩ λg'=>yQ8 λhg=>⟨⟨_,_,rfl,hn,.inr ⟨Nat.succ_pos _,g',rfl,zYv ai hg,?_⟩⟩,?_⟩)
   ·rw[yQ9,yZm ai]
   ·rw[yQc aa (show us.length<=281474976710656 by omega)]
 rintro fr ae _ ⟨⟨ta,xa,f7,am,A⟩,f1,f3,f5,f6,f21,f22,f23,rfl⟩;rw[lTl] at am;have U:=A.sub;have hta:=A.es;have aW:=A.ap.to (show xa.length=us.length by rw[am.len,yZj]);have aq:ae b=some (.box [.sl tl (arI l)]):=U b _ (ISt.put_same _ _ _);have al:ae m=some (.map .str es):=U m _ (by rw[yQ5 (yXt hm hb)];exact hm);clear A;simp only[go_sem,zE,zA,zL,f3,f22,f23,yQi (nLi _)];refine (yXp gl op n _ _ _ _ _).mono ?_;rintro _ ae ⟨rfl,rfl⟩;cases hq:isQ op
 ·simp only[go_sem,zE,f3,aw.len];intros;refine LoopC.ctr sub.length (λk fr st' ds=>(∃O ys,fr 7=.box [.raw (.int .u8 op),.raw (.string n),.sl ta xa,.sl O ys]/\IsFmsD (yJf fv (l).reverse (sub.take k)) ys/\frontF (ae) k O st') /\
   fr 1=.iv (.raw (.map (some m)))/\fr 5=.iv (.raw (.pointer (some ⟨b,0,none⟩)))/\fr 6=.box [.raw (.int .u8 0),.raw (.string ⟨#[]⟩),.sl ⟨true,.nil,0⟩ [],.sl ⟨true,.nil,0⟩ []] /\
   fr 68=.iv (.sl t2 x2)/\fr 69=.iv (.raw (.int .i64 sub.length))/\fr 70=.iv (.raw (.int .i64 k))/\ds=[]) ?_ ?_ ?_
  ·simp only[go_sem,zE,f1,f5,f6,f7];exact⟨⟨_,_,rfl,IsFmsD.nil,.inl ⟨rfl,rfl,rfl⟩⟩,rfl⟩
  ·rintro k fr af _ aa ⟨⟨O,ys,f7,hys,A⟩,f1,f5,f6,f68,f69,f70,rfl⟩;obtain⟨a,ha⟩:=yQ1 aa;obtain⟨x,ao,hx⟩:=aw.get ha;obtain⟨h1,h2⟩:=yQv ha;have aH:af b=some (.box [.sl (tl) (arI (l))]):=A.sub b _ (by exact aq);have aD:af m=some (.map .str es):=A.sub m _ (by exact al);have J:=IH a (lMg ha) x hx fv m es (l) (tl) (by exact htl) (by omega) (yXz aA (lMg ha)) af aD aK;have E:ys.length=k:=by rw[hys.len,yXh,List.length_take];omega
   have D:∀r,IsFmD (zXb fv (l).reverse a) r->IsFmsD (yJf fv (l).reverse (sub.take (k+1))) (ys++[r]):=λr hr=>by
    rw[yQ7 ha,yKj];exact hys.append (IsFmsD.one hr)
   obtain⟨o2,n2,u2,s2⟩:=a;obtain⟨t3,x3,t4,x4,rfl,_⟩:=hx.mk;simp only[go_sem,zE,zB,zA,zL,f1,f5,f7,f68,f69,f70,lt_i aa,yQ3 aO,iNn,ao,fits,aH];refine J.mono ?_;rintro r _ ⟨hr,rfl⟩;have hn:=D r hr;clear D J;obtain⟨t5,x5,t6,x6,rfl,_⟩:=hr.mk;rcases A with⟨rfl,hc,rfl⟩|⟨hk,g0,rfl,ai,rfl⟩
   ·obtain⟨tf,tc,te⟩:=O;simp only at hc;subst hc;obtain rfl:ys=[]:=List.eq_nil_of_length_eq_zero E;simp only[go_sem,zE,zA,zM,zL,f1,f5,f6,f7,f68,f69,f70,fits];refine yQj rfl λg'=>yQ8 λhg=>⟨⟨_,_,rfl,hn,.inr ⟨Nat.one_pos,g',rfl,hg,rfl⟩⟩,?_⟩
    rfl
   ·simp only[go_sem,zE,zA,zM,zL,f1,f5,f6,f7,f68,f69,f70,fits,ISt.put_same,E];refine yQj rfl (yQj ⟨by omega,by omega⟩ λg'=>yQ8 λhg=>⟨⟨_,_,rfl,hn,.inr ⟨Nat.succ_pos _,g',rfl,zYv ai hg,?_⟩⟩,?_⟩)
    ·rw[yQ9,yZm ai]
    ·rw[yQc aa (show sub.length<=281474976710656 by omega)]
  rintro fr af _ ⟨⟨tb,xb,f7,ab,A⟩,f1,f5,f6,f68,f69,f70,rfl⟩;rw[lTl] at ab;have ah:=A.sub;have ay:=A.es;have aG:=A.ap.to (show xb.length=sub.length by rw[ab.len,yXh]);simp only[go_sem,zE,zA,zL,f6,f7,f69,f70,yQi (nLi _)];refine yQf (st':=st) ((yQa hb).trans (U.trans ah)) ⟨?_,rfl⟩;exact IsFmD.of ⟨ta,xa,tb,xb,by simp[hq],aQ,hta,am.1,ay,by simpa[hq] using ab.1⟩ aW am.2 aG ab.2
 ·simp only[go_sem,zE,f5];refine λm2=>yQ8 λax=>?_;have aU:b≠m2:=yXt aq ax;have aC:m≠m2:=yXt al ax;have a7:m≠b:=yXt hm hb;have eb:∀e,(ae.put m2 (some (.map .str e))) b=some (.box [.sl tl (arI l)]):=λe=>by rw[yQ5 aU];exact aq
  simp only[go_sem,eb [],yJa];intros;refine LoopC.ctr l.length (λk fr st' ds=>(∃ac,SetOk ac ((l.take k).map (·.2))/\st'=ae.put m2 (some (.map .str ac)))/\fr 1=.iv (.raw (.map (some m)))/\fr 3=.box [.raw (.int .u8 op),.raw (.string n),.sl t1 x1,.sl t2 x2]/\fr 5=.iv (.raw (.pointer (some ⟨b,0,none⟩))) /\
   fr 6=.box [.raw (.int .u8 0),.raw (.string ⟨#[]⟩),.sl ⟨true,.nil,0⟩ [],.sl ⟨true,.nil,0⟩ []]/\fr 7=.box [.raw (.int .u8 op),.raw (.string n),.sl ta xa,.sl ⟨true,.nil,0⟩ []]/\fr 10=.iv (.raw (.map (some m2))) /\
   fr 39=.iv (.sl tl (arI l))/\fr 40=.iv (.raw (.int .i64 l.length))/\fr 41=.iv (.raw (.int .i64 k))/\ds=[]) ?_ ?_ ?_
  ·simp only[go_sem,zE,f1,f3,f5,f6,f7];exact⟨⟨[],SetOk.nil,rfl⟩,rfl⟩
  ·rintro k fr _ _ aa ⟨⟨ac,aJ,rfl⟩,f1,f3,f5,f6,f7,f10,f39,f40,f41,rfl⟩;obtain⟨p,hp⟩:=yQ1 aa;simp only[go_sem,zE,zB,zA,zL,f1,f3,f5,f6,f7,f10,f39,f40,f41,lt_i aa,yQ3 htl.es,iNn,yUe hp,fits,ISt.put_same,yQc aa (show l.length<=281474976710656 by omega),yQ9];refine⟨_,?_,rfl⟩;rw[yQ7 hp,List.map_append];exact aJ.upd p.2
  ·rintro fr _ _ ⟨⟨ac,aJ,rfl⟩,f1,f3,f5,f6,f7,f10,f39,f40,f41,rfl⟩;rw[lTl] at aJ;have aF:=λtg bg=>wX3 gl G [(m,fv),(m2,l.map (·.2))] tg bg (by simp[allM];omega) (ae.put m2 (some (.map .str ac))) (λp hp=>by
    simp only[List.mem_cons,List.not_mem_nil,or_false] at hp;rcases hp with rfl|rfl
    ·exact⟨es,by rw[yQ5 aC];exact al,aK⟩
    ·exact⟨ac,ISt.put_same _ _ _,aJ⟩)
   have bl:yKf (allM [(m,fv),(m2,l.map (·.2))])=yKf (fv++l.reverse.map (·.2)):=xQi λx=>by
    simp[allM]
   rw[bl] at aF;generalize av:yKf (fv++l.reverse.map (·.2))=new at aF;simp only[go_sem,zE,zA,zM,zL,f1,f10,f40,f41,yQi (nLi _),fits,yJw];refine (aF _ (by simp only[go_sem])).mono ?_;rintro _ _ ⟨rfl,rfl⟩;rcases htl with⟨rfl,rfl⟩|⟨g0,rfl⟩
   ·simp only[go_sem,zE,zA,zM,zL,f3,f5,f7,fits,eb ac,yW0,yJa,yG4,yQ4,aw.len]
    first
     | refine λg=>yQ8 λhg=>?_
     | refine yQj ⟨by omega,by omega⟩ λg=>yQ8 λhg=>?_
    have aE:st m2=none:=yWn ((yQa hb).trans U) ax;have aV:b≠g:=by
     rintro rfl;rw[yQ5 aU] at hg;rw[hg] at aq;cases aq
    have aS:m≠g:=by
     rintro rfl;rw[yQ5 aC] at hg;rw[hg] at al;cases al
    have aX:((ae.put m2 (some (.map .str ac))).put g (some (.front 1 2))) b=some (.box [.sl _ (arI [])]):=(yQ5 aV).trans (eb ac);have aL:arI []++[.agg [.raw (.string n),.raw (.string new)]]=arI ([(n,new)]):=by first|rfl|(rw[yGm];rfl)
    have az:([(n,new)]).reverse=(n,new)::([]:Ar).reverse:=by simp
    try simp only[List.nil_append] at aL
    simp only[go_sem,zL,aX];intros;refine LoopC.ctr sub.length (λk fr st' ds=>(∃O ys,fr 7=.box [.raw (.int .u8 op),.raw (.string new),.sl ta xa,.sl O ys]/\IsFmsD (yJf fv ([(n,new)]).reverse (sub.take k)) ys/\frontF ((((ae.put m2 (some (.map .str ac))).put g (some (.front 1 2))).put b (some (.box [.sl ⟨true,.app g,2⟩ (arI ([(n,new)]))])))) k O st') /\
     fr 1=.iv (.raw (.map (some m)))/\fr 5=.iv (.raw (.pointer (some ⟨b,0,none⟩)))/\fr 6=.box [.raw (.int .u8 0),.raw (.string ⟨#[]⟩),.sl ⟨true,.nil,0⟩ [],.sl ⟨true,.nil,0⟩ []] /\
     fr 68=.iv (.sl t2 x2)/\fr 69=.iv (.raw (.int .i64 sub.length))/\fr 70=.iv (.raw (.int .i64 k))/\ds=[]) ?_ ?_ ?_
    ·simp only[go_sem,zE,f1,f5,f6];exact⟨⟨_,_,rfl,IsFmsD.nil,.inl ⟨rfl,rfl,rfl⟩⟩,rfl⟩
    ·rintro k fr af _ aa ⟨⟨O,ys,f7,hys,A⟩,f1,f5,f6,f68,f69,f70,rfl⟩;obtain⟨a,ha⟩:=yQ1 aa;obtain⟨x,ao,hx⟩:=aw.get ha;obtain⟨h1,h2⟩:=yQv ha;have aH:af b=some (.box [.sl (⟨true,.app g,2⟩) (arI ([(n,new)]))]):=A.sub b _ (by exact ISt.put_same _ _ _);have aD:af m=some (.map .str es):=A.sub m _ (by rw[yQ5 a7,yQ5 aS,yQ5 aC];exact al);have J:=IH a (lMg ha) x hx fv m es ([(n,new)]) (⟨true,.app g,2⟩) (by exact .inr ⟨g,rfl⟩) (by simp;omega) (yXz aA (lMg ha)) af aD aK;have E:ys.length=k:=by rw[hys.len,yXh,List.length_take];omega
     have D:∀r,IsFmD (zXb fv ([(n,new)]).reverse a) r->IsFmsD (yJf fv ([(n,new)]).reverse (sub.take (k+1))) (ys++[r]):=λr hr=>by
      rw[yQ7 ha,yKj];exact hys.append (IsFmsD.one hr)
     obtain⟨o2,n2,u2,s2⟩:=a;obtain⟨t3,x3,t4,x4,rfl,_⟩:=hx.mk;simp only[go_sem,zE,zB,zA,zL,f1,f5,f7,f68,f69,f70,lt_i aa,yQ3 aO,iNn,ao,fits,aH];refine J.mono ?_;rintro r _ ⟨hr,rfl⟩;have hn:=D r hr;clear D J;obtain⟨t5,x5,t6,x6,rfl,_⟩:=hr.mk;rcases A with⟨rfl,hc,rfl⟩|⟨hk,g0,rfl,ai,rfl⟩
     ·obtain⟨tf,tc,te⟩:=O;simp only at hc;subst hc;obtain rfl:ys=[]:=List.eq_nil_of_length_eq_zero E;simp only[go_sem,zE,zA,zM,zL,f1,f5,f6,f7,f68,f69,f70,fits];refine yQj rfl λg'=>yQ8 λhg=>⟨⟨_,_,rfl,hn,.inr ⟨Nat.one_pos,g',rfl,hg,rfl⟩⟩,?_⟩
      rfl
     ·simp only[go_sem,zE,zA,zM,zL,f1,f5,f6,f7,f68,f69,f70,fits,ISt.put_same,E];refine yQj rfl (yQj ⟨by omega,by omega⟩ λg'=>yQ8 λhg=>⟨⟨_,_,rfl,hn,.inr ⟨Nat.succ_pos _,g',rfl,zYv ai hg,?_⟩⟩,?_⟩)
      ·rw[yQ9,yZm ai]
      ·rw[yQc aa (show sub.length<=281474976710656 by omega)]
    rintro fr af _ ⟨⟨tb,xb,f7,ab,A⟩,f1,f5,f6,f68,f69,f70,rfl⟩;rw[lTl] at ab;have ah:=A.sub;have ay:=A.es;have aG:=A.ap.to (show xb.length=sub.length by rw[ab.len,yXh]);simp only[go_sem,zE,zA,zL,f6,f7,f69,f70,yQi (nLi _)];have aT:st g=none:=by
     refine yWn ((yQa hb).trans (U.trans (yQa ax))) (?_:(ae.put m2 (some (.map .str ac))) g=none);exact hg
    refine yQf (st':=st) ((yJ7 (yJ7 (yJ7 ((yQa hb).trans U) aE) aT) hb).trans ah) ⟨?_,rfl⟩;refine IsFmD.of ⟨ta,xa,tb,xb,?_,aQ,hta,am.1,ay,?_⟩ aW am.2 aG ab.2
    ·simp only[hq,if_true,av]
    ·simp only[hq,if_true,av];rw[az] at ab;exact ab.1
   ·simp only[go_sem,zE,zA,zM,zL,reduceCtorEq,f3,f5,f7,fits,eb ac,yW0,yJa,yG4,yQ4,xWy,aw.len]
    first
     | refine λg=>yQ8 λhg=>?_
     | refine yQj ⟨by omega,by omega⟩ λg=>yQ8 λhg=>?_
    have aE:st m2=none:=yWn ((yQa hb).trans U) ax;have aV:b≠g:=by
     rintro rfl;rw[yQ5 aU] at hg;rw[hg] at aq;cases aq
    have aS:m≠g:=by
     rintro rfl;rw[yQ5 aC] at hg;rw[hg] at al;cases al
    have aX:((ae.put m2 (some (.map .str ac))).put g (some (.front (l.length+1) 2))) b=some (.box [.sl _ (arI l)]):=(yQ5 aV).trans (eb ac);have aL:arI l++[.agg [.raw (.string n),.raw (.string new)]]=arI (l++[(n,new)]):=by first|rfl|(rw[yGm];rfl)
    have az:(l++[(n,new)]).reverse=(n,new)::(l:Ar).reverse:=by simp
    try simp only[List.nil_append] at aL
    simp only[go_sem,zL,aX,aL];intros;refine LoopC.ctr sub.length (λk fr st' ds=>(∃O ys,fr 7=.box [.raw (.int .u8 op),.raw (.string new),.sl ta xa,.sl O ys]/\IsFmsD (yJf fv (l++[(n,new)]).reverse (sub.take k)) ys/\frontF ((((ae.put m2 (some (.map .str ac))).put g (some (.front (l.length+1) 2))).put b (some (.box [.sl ⟨true,.app g,2⟩ (arI (l++[(n,new)]))])))) k O st') /\
     fr 1=.iv (.raw (.map (some m)))/\fr 5=.iv (.raw (.pointer (some ⟨b,0,none⟩)))/\fr 6=.box [.raw (.int .u8 0),.raw (.string ⟨#[]⟩),.sl ⟨true,.nil,0⟩ [],.sl ⟨true,.nil,0⟩ []] /\
     fr 68=.iv (.sl t2 x2)/\fr 69=.iv (.raw (.int .i64 sub.length))/\fr 70=.iv (.raw (.int .i64 k))/\ds=[]) ?_ ?_ ?_
    ·simp only[go_sem,zE,f1,f5,f6];exact⟨⟨_,_,rfl,IsFmsD.nil,.inl ⟨rfl,rfl,rfl⟩⟩,rfl⟩
    ·rintro k fr af _ aa ⟨⟨O,ys,f7,hys,A⟩,f1,f5,f6,f68,f69,f70,rfl⟩;obtain⟨a,ha⟩:=yQ1 aa;obtain⟨x,ao,hx⟩:=aw.get ha;obtain⟨h1,h2⟩:=yQv ha;have aH:af b=some (.box [.sl (⟨true,.app g,2⟩) (arI (l++[(n,new)]))]):=A.sub b _ (by exact ISt.put_same _ _ _);have aD:af m=some (.map .str es):=A.sub m _ (by rw[yQ5 a7,yQ5 aS,yQ5 aC];exact al);have J:=IH a (lMg ha) x hx fv m es (l++[(n,new)]) (⟨true,.app g,2⟩) (by exact .inr ⟨g,rfl⟩) (by simp;omega) (yXz aA (lMg ha)) af aD aK;have E:ys.length=k:=by rw[hys.len,yXh,List.length_take];omega
     have D:∀r,IsFmD (zXb fv (l++[(n,new)]).reverse a) r->IsFmsD (yJf fv (l++[(n,new)]).reverse (sub.take (k+1))) (ys++[r]):=λr hr=>by
      rw[yQ7 ha,yKj];exact hys.append (IsFmsD.one hr)
     obtain⟨o2,n2,u2,s2⟩:=a;obtain⟨t3,x3,t4,x4,rfl,_⟩:=hx.mk;simp only[go_sem,zE,zB,zA,zL,f1,f5,f7,f68,f69,f70,lt_i aa,yQ3 aO,iNn,ao,fits,aH];refine J.mono ?_;rintro r _ ⟨hr,rfl⟩;have hn:=D r hr;clear D J;obtain⟨t5,x5,t6,x6,rfl,_⟩:=hr.mk;rcases A with⟨rfl,hc,rfl⟩|⟨hk,g0,rfl,ai,rfl⟩
     ·obtain⟨tf,tc,te⟩:=O;simp only at hc;subst hc;obtain rfl:ys=[]:=List.eq_nil_of_length_eq_zero E;simp only[go_sem,zE,zA,zM,zL,f1,f5,f6,f7,f68,f69,f70,fits];refine yQj rfl λg'=>yQ8 λhg=>⟨⟨_,_,rfl,hn,.inr ⟨Nat.one_pos,g',rfl,hg,rfl⟩⟩,?_⟩
      rfl
     ·simp only[go_sem,zE,zA,zM,zL,f1,f5,f6,f7,f68,f69,f70,fits,ISt.put_same,E];refine yQj rfl (yQj ⟨by omega,by omega⟩ λg'=>yQ8 λhg=>⟨⟨_,_,rfl,hn,.inr ⟨Nat.succ_pos _,g',rfl,zYv ai hg,?_⟩⟩,?_⟩)
      ·rw[yQ9,yZm ai]
      ·rw[yQc aa (show sub.length<=281474976710656 by omega)]
    rintro fr af _ ⟨⟨tb,xb,f7,ab,A⟩,f1,f5,f6,f68,f69,f70,rfl⟩;rw[lTl] at ab;have ah:=A.sub;have ay:=A.es;have aG:=A.ap.to (show xb.length=sub.length by rw[ab.len,yXh]);simp only[go_sem,zE,zA,zL,f6,f7,f69,f70,yQi (nLi _)];have aT:st g=none:=by
     refine yWn ((yQa hb).trans (U.trans (yQa ax))) (?_:(ae.put m2 (some (.map .str ac))) g=none);exact hg
    refine yQf (st':=st) ((yJ7 (yJ7 (yJ7 ((yQa hb).trans U) aE) aT) hb).trans ah) ⟨?_,rfl⟩;refine IsFmD.of ⟨ta,xa,tb,xb,?_,aQ,hta,am.1,ay,?_⟩ aW am.2 aG ab.2
    ·simp only[hq,if_true,av]
    ·simp only[hq,if_true,av];rw[az] at ab;exact ab.1
