/- Walks: Alpha; normal's closure. -/
import Derived.Test.YtofmbookakncjaaGreatDoorJY
set_option linter.all false
open Nat renaming reduceEqDiff → zE,reduceBEq → zB,reduceAdd → zA,reduceMul → zM,reduceLeDiff → zL
namespace Go.Proofs.Tryz
open Go Go.Iv
set_option maxRecDepth 4000
variable (gl:Nat->Option IV)
theorem vJ7 (G:Gl gl)(f g:Fm)(x y:IV)(O:IsFm f x)(J:IsFm g y)(hs:f.size<=1000000)(U:g.size<=1000000)(st:ISt) :
  ICall prog gl 84 [x,y] st (λr st'=>r=.raw (.bool (yU0 f g))/\st'=st):=by
 have h1:=λst=>zVq gl G f x O st hs;have h2:=λst=>zVq gl G g y J st U;have h3:=λhf hg st=>vXx gl f g [] ⟨true,.nil,0⟩ (.inl ⟨rfl,rfl⟩) (by simp;omega) x y O J hf hg st;obtain⟨o,n,us,sub⟩:=f;obtain⟨t1,x1,t2,x2,rfl,_⟩:=O.mk;obtain⟨o',n',E,D⟩:=g;obtain⟨t3,x3,t4,x4,rfl,_⟩:=J.mk;refine iI func84 ?_;simp only[go_sem,zE,zA,zL];refine (h1 _).mono ?_;rintro _ st ⟨rfl,rfl⟩;cases hr:(Fm.mk o n us sub).right
 ·simp only[go_sem,zE];exact yQ0 ⟨by simp[yU0,hr],rfl⟩
 ·simp only[go_sem,zE,zA,zL];refine (h2 _).mono ?_;rintro _ st ⟨rfl,rfl⟩;cases A:(Fm.mk o' n' E D).right
  ·simp only[go_sem,zE];exact yQ0 ⟨by simp[yU0,A],rfl⟩
  ·simp only[go_sem,zE,zA,zL];refine (h3 (yJw hr).1 (yJw A).1 _).mono ?_;rintro _ st ⟨rfl,rfl⟩;simp only[go_sem,zE];exact yQ0 ⟨by simp[yU0,hr,A],rfl⟩
theorem vZ4 {l:Ar}{j:Nat}{p:ByteArray×ByteArray}{nm:ByteArray}(h:l[j]?=some p)(hp:p.1=nm)(E:∀q∈l.drop (j+1),q.1≠nm):renF l.reverse nm=some (.mk true p.2 []):=by
 have A:=(lGs h).1;have hs:l=l.take j++p::l.drop (j+1):=by
  conv=>lhs;rw[<- List.take_append_drop j l,List.drop_eq_getElem_cons A,(lGs h).2]
 unfold renF;rw[hs,List.reverse_append,List.reverse_cons,List.append_assoc,List.find?_append];have h1:(l.drop (j+1)).reverse.find? (λp=>decide (p.1=nm))=none:=by
  rw[List.find?_eq_none];intro q D;simpa using E q (List.mem_reverse.1 D)
 rw[h1,Option.none_or,List.find?_append];simp[hp]
theorem wX6 {l:Ar}{nm:ByteArray}(D:∀q∈l,q.1≠nm):renF l.reverse nm=none:=by
 unfold renF;rw[Option.map_eq_none_iff,List.find?_eq_none];intro q A;simpa using D q (List.mem_reverse.1 A)
theorem wXg (nm:ByteArray)(b:Nat)(l:Ar)(tl:Tag)(htl:okEs tl 2)(hll:l.length<=1099511627776)(st:ISt)(U:st b=some (.box [.sl tl (arI l)])) :
  ICall prog gl 249 [.raw (.string nm),.raw (.pointer (some ⟨b,0,none⟩))] st (wGl (renF l.reverse) nm st):=by
 have G:IntKind.i64.wrap ((l.length:Int)-1)=(l.length:Int)-1:=by rw[w64]<;>omega
 refine iI func249 ?_;simp only[go_sem,zE,U,yKm,G];intros;refine LoopC.ctr l.length (λk fr st' ds=>(∀q∈l.drop (l.length-k),q.1≠nm)/\fr 0=.iv (.raw (.string nm))/\fr 1=.iv (.raw (.pointer (some ⟨b,0,none⟩)))/\fr 3=.box [.raw (.bool false),.raw (.string ⟨#[]⟩),.sl ⟨true,.nil,0⟩ []] /\
  fr 5=.iv (.raw (.int .i64 (((l.length-k:Nat):Int)-1)))/\st'=st/\ds=[]) ?_ ?_ ?_
 ·simp only[go_sem,zE,reduceCtorEq];simp
 ·rintro k fr st _ ab ⟨E,f0,f1,f3,f5,rfl,rfl⟩;obtain⟨j,hj⟩:∃j,l.length-k=j+1:=⟨l.length-k-1,by omega⟩
  obtain⟨p,hp⟩:=yQ1 (show j<l.length by omega);rw[hj] at E;rw[hj,show (((j+1:Nat):Int)-1)=(j:Int) by omega] at f5;have D:IntKind.i64.wrap ((j:Int)-1)=(((l.length-(k+1):Nat):Int)-1):=by rw[w64]<;>omega
  have O:l.length-(k+1)=j:=by omega
  by_cases h1:p.1=nm
  ·have A:=vZ4 hp h1 E;simp only[go_sem,zE,zA,zL,reduceCtorEq,f0,f1,f3,f5,U,yQ3 htl,iNn,yUn hp,fits,dEt h1,decide_true];refine yQ0 ⟨rfl,.mk true p.2 [],_,?_,by rw[A];rfl,λw D=>by rw[A] at D;exact (Option.some.inj D).symm⟩;exact⟨_,[],rfl,by simp only[go_sem],rfl⟩
  ·simp only[go_sem,zE,reduceCtorEq,f0,f1,f3,f5,U,yQ3 htl,iNn,yUn hp,fits,dEf h1,decide_true,D];rw[O,List.drop_eq_getElem_cons (by omega),(lGs hp).2];intro q J;rcases List.mem_cons.1 J with rfl|J
   ·exact h1
   ·exact E q J
 ·rintro fr st _ ⟨E,f0,f1,f3,f5,rfl,rfl⟩;rw[Nat.sub_self,List.drop_zero] at E;rw[Nat.sub_self] at f5;have A:=wX6 E;simp only[go_sem,zE,zA,zL,f3,f5,show decide ((0:Int)<=(((0:Nat):Int)-1))=false from rfl];refine yQ0 ⟨rfl,.mk false ⟨#[]⟩ [],_,?_,by rw[A];rfl,λw D=>by rw[A] at D;cases D⟩;exact⟨_,[],rfl,by simp only[go_sem],rfl⟩
theorem yVz {st s:ISt}{b:Nat}{o:Option IObj}(h:subSt st s)(D:st b=none):subSt st (s.put b o):=λc x hc=>by
 rw[ISt.put_apply];split
 ·rename_i A;rw[A,D] at hc;cases hc
 ·exact h c x hc
theorem zKc {st s:ISt}{b:Nat}(h:subSt st s)(A:s b=none):st b=none:=by
 cases D:st b with
 | none=>rfl
 | some o=>rw[h b o D] at A;cases A
theorem frontAt.sub {st st':ISt}{k:Nat}{A:Tag}(h:frontAt st k A st'):subSt st st':=by
 rcases h with⟨_,_,rfl⟩|⟨_,g,_,D,rfl⟩
 ·exact subSt.refl _
 ·exact yQh D
theorem frontAt.es {st st':ISt}{k:Nat}{A:Tag}(h:frontAt st k A st'):okEs A 3:=by
 rcases h with⟨_,h,_⟩|⟨_,g,rfl,_⟩
 ·exact .inl h
 ·exact .inr rfl
theorem frontF.sub {st st':ISt}{k:Nat}{A:Tag}(h:frontF st k A st'):subSt st st':=by
 rcases h with⟨_,_,rfl⟩|⟨_,g,_,D,rfl⟩
 ·exact subSt.refl _
 ·exact yQh D
theorem frontF.es {st st':ISt}{k:Nat}{A:Tag}(h:frontF st k A st'):okEs A 4:=by
 rcases h with⟨_,h,_⟩|⟨_,g,rfl,_⟩
 ·exact .inl h
 ·exact .inr rfl
theorem frontAt.ap {st st':ISt}{k:Nat}{A:Tag}(h:frontAt st k A st'):appT k A:=by
 rcases h with⟨_,h,_⟩|⟨D,g,rfl,_⟩
 ·exact .inl h
 ·exact .inr ⟨D,rfl,g,rfl⟩
theorem frontF.ap {st st':ISt}{k:Nat}{A:Tag}(h:frontF st k A st'):appT k A:=by
 rcases h with⟨_,h,_⟩|⟨D,g,rfl,_⟩
 ·exact .inl h
 ·exact .inr ⟨D,rfl,g,rfl⟩
theorem _root_.Go.Iv.IsFmD.of {f:Fm}{a b:Value}{t D:Tag}{A ys:List IV}(h:IsFm f (.agg [.raw a,.raw b,.sl t A,.sl D ys]))(ha:appT A.length t)(O:dfrs A)(E:appT ys.length D)(J:dfrs ys) :
  IsFmD f (.agg [.raw a,.raw b,.sl t A,.sl D ys]):=by
 obtain⟨o,n,us,sub⟩:=f;obtain⟨_,_,_,_,he,U,h1,h2,h3,G⟩:=h.mk;cases he;exact IsFmD.intro U h1 (ha.to h2.len.symm) ⟨h2,O⟩ h3 (E.to G.len.symm) ⟨G,J⟩
theorem wX7 {st:ISt}{g E:Nat}{o:Option IObj}(A:st g=none)(D:E=g\/(st.put g o) E=none):st E=none:=by
 rcases D with rfl|D
 ·exact A
 ·by_cases h:E=g
  ·rw[h];exact A
  ·rw[yQ7 h] at D;exact D
def NM (f:Fm):Prop:=∀(x:IV) (_:IsFm f x) (fv:List ByteArray) (m:Nat) (es:List (Value×IV)) (l:Ar) (tl:Tag) (_:arT tl l) (_:fv.length+l.length+f.size<=1099511627776) (_:f.ok=true) (st:ISt) (_:st m=some (.map .str es)) (_:SetOk es fv),
 ICall prog gl 219 [x,.raw (.map (some m)),.sl tl (arI l)] st (λr st'=>IsFmD (zW1 fv l.reverse f) r/\st'=st)
theorem xJr (G:Gt gl)(op:Nat)(n:ByteArray)(us:List Tm)(sub:List Fm)(IH:∀a∈sub,NM gl a):NM gl (.mk op n us sub):=by
 intro x hx fv m es l tl htl hll bc st hm aV;obtain⟨t1,x1,t2,x2,rfl,bb,ba,aN,a8,aF⟩:=hx.mk;obtain⟨bt,aO,_⟩:=zK7 bc;simp only[Fm.size] at hll;have bs:=yJ7 us;have br:=yX4 sub;refine ICall.intro (c:=cf prog gl [5,54,55,57,78] []) func219 rfl (by show _<=85;simp) (by kernel_rfl) ?_;simp only[go_sem,zE,zA,zL,fits];refine λb=>yQ8 λhb=>?_;simp only[go_sem,aN.len];intros;refine LoopC.ctr us.length (λk fr st' ds=>(∃ac ys,fr 7=.box [.raw (.int .u8 op),.raw (.string n),.sl ac ys,.sl ⟨true,.nil,0⟩ []]/\IsTmsD (yX3 (renF l.reverse) (us.take k)) ys/\frontAt (st.put b (some (.box [.sl tl (arI l)]))) k ac st') /\
  fr 1=.iv (.raw (.map (some m)))/\fr 3=.box [.raw (.int .u8 op),.raw (.string n),.sl t1 x1,.sl t2 x2]/\fr 5=.iv (.raw (.pointer (some ⟨b,0,none⟩)))/\fr 6=.box [.raw (.int .u8 0),.raw (.string ⟨#[]⟩),.sl ⟨true,.nil,0⟩ [],.sl ⟨true,.nil,0⟩ []] /\
  fr 21=.iv (.sl t1 x1)/\fr 22=.iv (.raw (.int .i64 us.length))/\fr 23=.iv (.raw (.int .i64 k))/\ds=[]) ?_ ?_ ?_
 ·simp only[go_sem,zE];exact⟨⟨_,_,rfl,IsTmsD.nil,.inl ⟨rfl,rfl,rfl⟩⟩,rfl⟩
 ·rintro k fr E _ O ⟨⟨ac,ys,f7,hys,A⟩,f1,f3,f5,f6,f21,f22,f23,rfl⟩;obtain⟨a,ha⟩:=yQ1 O;obtain⟨x,aJ,hx⟩:=aN.get ha;obtain⟨h1,h2⟩:=yZz ha;have aa:=xQv gl (renF l.reverse) (λnm u h=>by rw[(wWu h).1];omega) a x hx (by omega) (.func 249) [] [.raw (.pointer (some ⟨b,0,none⟩))] rfl (λi hi=>by cases hi;simp only[go_sem]) (st.put b (some (.box [.sl tl (arI l)])))
   (λnm s hs=>ICallV.of_ICall (by simp only[go_sem]) (wXg gl nm b l tl htl.es (by omega) s (hs b _ (ISt.put_same _ _ _)))) E A.sub
  have U:ys.length=k:=by rw[hys.len,yZm,List.length_take];omega
  have J:∀r,IsTmD (yY6 (renF l.reverse) a) r->IsTmsD (yX3 (renF l.reverse) (us.take (k+1))) (ys++[r]):=λr hr=>by
   rw[yQ6 ha,yJe];exact hys.append (IsTmsD.one hr)
  obtain⟨v2,n2,l2⟩:=a;obtain⟨tx,cx,rfl,bF,bI⟩:=hx.mk;simp only[go_sem,zE,zB,zA,zL,f5,f7,f21,f22,f23,lt_i O,yQ3 ba,iNn,aJ,fits];refine aa.mono ?_;rintro r _ ⟨hr,rfl⟩;have hn:=J r hr;clear J aa;generalize yY6 (renF l.reverse) (.mk v2 n2 l2)=w at hr;obtain⟨v3,n3,m3⟩:=w;obtain⟨t3,x3,rfl,_⟩:=hr.mk;rcases A with⟨rfl,hc,rfl⟩|⟨hk,g0,rfl,al,rfl⟩
  ·obtain⟨tf,tc,te⟩:=ac;simp only at hc;subst hc;obtain rfl:ys=[]:=List.eq_nil_of_length_eq_zero U;simp only[go_sem,zE,zA,zM,zL,f1,f3,f5,f6,f7,f21,f22,f23,fits];refine yQp rfl λg'=>yQ8 λhg=>⟨⟨_,_,rfl,hn,.inr ⟨Nat.one_pos,g',rfl,hg,rfl⟩⟩,?_⟩
   rfl
  ·simp only[go_sem,zE,zA,zM,zL,f1,f3,f5,f6,f7,f21,f22,f23,fits,ISt.put_same,U];refine yQp rfl (yQp ⟨by omega,by omega⟩ λg'=>yQ8 λhg=>⟨⟨_,_,rfl,hn,.inr ⟨Nat.succ_pos _,g',rfl,wX7 al hg,?_⟩⟩,?_⟩)
   ·rw[yQ9,yXc al]
   ·rw[yQc O (show us.length<=281474976710656 by omega)]
 rintro fr E _ ⟨⟨ta,xa,f7,av,A⟩,f1,f3,f5,f6,f21,f22,f23,rfl⟩;rw[lTl] at av;have D:=A.sub;have hta:=A.es;have bl:=A.ap.to (show xa.length=us.length by rw[av.len,yZm]);have an:E b=some (.box [.sl tl (arI l)]):=D b _ (ISt.put_same _ _ _);have ai:E m=some (.map .str es):=D m _ (by rw[yQ7 (yKe hm hb)];exact hm);clear A;simp only[go_sem,zE,zA,zL,f3,f22,f23,yQl (nLi _)];refine (yJ8 gl op n _ _ _ _ _).mono ?_;rintro _ E ⟨rfl,rfl⟩;cases hq:isQ op;simp only[go_sem,zE,f3,aF.len];intros;obtain⟨nn,ax⟩:∃nn,nn=(if isQ op then yJa (fv++l.reverse.map (·.2)) else n):=⟨_,rfl⟩
 obtain⟨lm,tm,sm,ae,aB,ag⟩:∃lm tm sm,lm=l/\tm=tl/\sm=E:=⟨_,_,_,rfl,rfl,rfl⟩
 have am:sm b=some (.box [.sl tm (arI lm)]):=by rw[ae,aB,ag];exact an
 have aD:sm m=some (.map .str es):=by rw[ag];exact ai
 have htm:arT tm lm:=by rw[ae,aB];exact htl
 have aU:lm.length<=l.length+1:=by rw[ae];omega
 have hS:subSt st sm:=by rw[ag];exact (yQh hb).trans D
 have aT:(if isQ op then (n,yJa (fv++l.reverse.map (·.2)))::l.reverse else l.reverse)=lm.reverse:=by rw[hq,ae];rfl
 rw[show n=nn by rw[ax,hq];rfl] at f7;rw[<- ag]
 rotate_left
 simp only[go_sem,zE,f5];refine λm2=>yQ8 λay=>?_;have aW:b≠m2:=yKe an ay;have aI:m≠m2:=yKe ai ay;have be:m≠b:=yKe hm hb;have eb:∀e,(E.put m2 (some (.map .str e))) b=some (.box [.sl tl (arI l)]):=λe=>by rw[yQ7 aW];exact an
 simp only[go_sem,eb [],yKm];intros;refine LoopC.ctr l.length (λk fr st' ds=>(∃af,SetOk af ((l.take k).map (·.2))/\st'=E.put m2 (some (.map .str af)))/\fr 1=.iv (.raw (.map (some m)))/\fr 3=.box [.raw (.int .u8 op),.raw (.string n),.sl t1 x1,.sl t2 x2]/\fr 5=.iv (.raw (.pointer (some ⟨b,0,none⟩))) /\
  fr 6=.box [.raw (.int .u8 0),.raw (.string ⟨#[]⟩),.sl ⟨true,.nil,0⟩ [],.sl ⟨true,.nil,0⟩ []]/\fr 7=.box [.raw (.int .u8 op),.raw (.string n),.sl ta xa,.sl ⟨true,.nil,0⟩ []]/\fr 10=.iv (.raw (.map (some m2))) /\
  fr 39=.iv (.sl tl (arI l))/\fr 40=.iv (.raw (.int .i64 l.length))/\fr 41=.iv (.raw (.int .i64 k))/\ds=[]) ?_ ?_ ?_
 ·simp only[go_sem,zE,f1,f3,f5,f6,f7];exact⟨⟨[],SetOk.nil,rfl⟩,rfl⟩
 ·rintro k fr _ _ O ⟨⟨af,aw,rfl⟩,f1,f3,f5,f6,f7,f10,f39,f40,f41,rfl⟩;obtain⟨p,hp⟩:=yQ1 O;simp only[go_sem,zE,zB,zA,zL,f1,f3,f5,f6,f7,f10,f39,f40,f41,lt_i O,yQ3 htl.es,iNn,yUn hp,fits,ISt.put_same,yQc O (show l.length<=281474976710656 by omega),yQ9];refine⟨_,?_,rfl⟩;rw[yQ6 hp,List.map_append];exact aw.upd p.2
 rintro fr _ _ ⟨⟨af,aw,rfl⟩,f1,f3,f5,f6,f7,f10,f39,f40,f41,rfl⟩;rw[lTl] at aw;have ak:=λtg a6=>wJa gl G [(m,fv),(m2,l.map (·.2))] tg a6 (by simp[allM];omega) (E.put m2 (some (.map .str af))) (λp hp=>by
  simp only[List.mem_cons,List.not_mem_nil,or_false] at hp;rcases hp with rfl|rfl
  ·exact⟨es,by rw[yQ7 aI];exact ai,aV⟩
  ·exact⟨af,ISt.put_same _ _ _,aw⟩)
 have bm:yJa (allM [(m,fv),(m2,l.map (·.2))])=yJa (fv++l.reverse.map (·.2)):=xZ1 λx=>by
  simp[allM]
 rw[bm] at ak;generalize aC:yJa (fv++l.reverse.map (·.2))=new at ak;simp only[go_sem,zE,zA,zM,zL,f1,f10,f40,f41,yQl (nLi _),fits,yJs];refine (ak _ (by simp only[go_sem])).mono ?_;rintro _ _ ⟨rfl,rfl⟩;obtain⟨lm,ae⟩:∃lm,lm=l++[(n,new)]:=⟨_,rfl⟩
 have aA:arI l++[.agg [.raw (.string n),.raw (.string new)]]=arI lm:=by rw[ae,zYn];rfl
 have aT:(if isQ op then (n,yJa (fv++l.reverse.map (·.2)))::l.reverse else l.reverse)=lm.reverse:=by rw[hq,aC,ae];simp
 have ax:new=(if isQ op then yJa (fv++l.reverse.map (·.2)) else n):=by rw[hq,aC];rfl
 have aU:lm.length<=l.length+1:=by rw[ae];simp
 generalize new=nn at ax aA ae ⊢;rcases htl with⟨rfl,rfl⟩|⟨g0,rfl⟩
 all_goals try
  simp only[go_sem,zE,zA,zM,zL,reduceCtorEq,f3,f5,f7,fits,eb af,yW2,yKm,zWi,yQ4,xGb,aF.len]
  first
   | refine λg=>yQ8 λhg=>?_
   | refine yQp ⟨by omega,by omega⟩ λg=>yQ8 λhg=>?_
  have aS:st m2=none:=zKc ((yQh hb).trans D) ay;have bj:b≠g:=by
   rintro rfl;rw[yQ7 aW] at hg;rw[hg] at an;cases an
  have bd:m≠g:=by
   rintro rfl;rw[yQ7 aI] at hg;rw[hg] at ai;cases ai
  have bn:∀o:Option IObj,((E.put m2 (some (.map .str af))).put g o) b=_:=λo=>(yQ7 bj).trans (eb af)
  first
   | have aE:[IV.agg [.raw (.string n),.raw (.string nn)]]=arI lm:=aA
   | have aE:=aA
  simp only[go_sem,zL,bn,aA,aE];intros;generalize ag:ISt.put (ISt.put (ISt.put E m2 _) g _) b _=sm;have bh:st g=none:=zKc ((yQh hb).trans (D.trans (yQh ay))) hg;have am:sm b=some (.box [.sl ⟨true,.app g,2⟩ (arI lm)]):=by rw[<- ag];exact ISt.put_same _ _ _
  have aD:sm m=some (.map .str es):=by rw[<- ag,yQ7 be,yQ7 bd,yQ7 aI];exact ai
  have htm:arT ⟨true,.app g,2⟩ lm:=.inr ⟨g,rfl⟩;have hS:subSt st sm:=by rw[<- ag];exact yVz (yVz (yVz ((yQh hb).trans D) aS) bh) hb
  generalize (⟨true,.app g,2⟩:Tag)=tm at am htm
 all_goals
  refine LoopC.ctr sub.length (λk fr st' ds=>(∃ac ys,fr 7=.box [.raw (.int .u8 op),.raw (.string nn),.sl ta xa,.sl ac ys]/\IsFmsD (yKx fv lm.reverse (sub.take k)) ys/\frontF sm k ac st') /\
   fr 1=.iv (.raw (.map (some m)))/\fr 5=.iv (.raw (.pointer (some ⟨b,0,none⟩)))/\fr 6=.box [.raw (.int .u8 0),.raw (.string ⟨#[]⟩),.sl ⟨true,.nil,0⟩ [],.sl ⟨true,.nil,0⟩ []] /\
   fr 68=.iv (.sl t2 x2)/\fr 69=.iv (.raw (.int .i64 sub.length))/\fr 70=.iv (.raw (.int .i64 k))/\ds=[]) ?_ ?_ ?_
  ·simp only[go_sem,zE,f1,f5,f6,f7];exact⟨⟨_,_,rfl,IsFmsD.nil,.inl ⟨rfl,rfl,rfl⟩⟩,rfl⟩
  ·rintro k fr aq _ O ⟨⟨ac,ys,f7,hys,A⟩,f1,f5,f6,f68,f69,f70,rfl⟩;obtain⟨a,ha⟩:=yQ1 O;obtain⟨x,aJ,hx⟩:=aF.get ha;obtain⟨h1,h2⟩:=yZ7 ha;have bk:aq b=some (.box [.sl tm (arI lm)]):=A.sub b _ (by exact am);have bf:aq m=some (.map .str es):=A.sub m _ (by exact aD);have aa:=IH a (lMg ha) x hx fv m es lm tm (by exact htm) (by omega) (zQ8 aO (lMg ha)) aq bf aV;have U:ys.length=k:=by rw[hys.len,yWq,List.length_take];omega
   have J:∀r,IsFmD (zW1 fv lm.reverse a) r->IsFmsD (yKx fv lm.reverse (sub.take (k+1))) (ys++[r]):=λr hr=>by
    rw[yQ6 ha,zQa];exact hys.append (IsFmsD.one hr)
   obtain⟨o2,n2,u2,s2⟩:=a;obtain⟨t3,x3,t4,x4,rfl,_⟩:=hx.mk;simp only[go_sem,zE,zB,zA,zL,f1,f5,f7,f68,f69,f70,lt_i O,yQ3 a8,iNn,aJ,fits,bk];refine aa.mono ?_;rintro r _ ⟨hr,rfl⟩;have hn:=J r hr;clear J aa;obtain⟨t5,x5,t6,x6,rfl,_⟩:=hr.mk;rcases A with⟨rfl,hc,rfl⟩|⟨hk,g0,rfl,al,rfl⟩
   ·obtain⟨tf,tc,te⟩:=ac;simp only at hc;subst hc;obtain rfl:ys=[]:=List.eq_nil_of_length_eq_zero U;simp only[go_sem,zE,zA,zM,zL,f1,f5,f6,f7,f68,f69,f70,fits];refine yQp rfl λg'=>yQ8 λhg=>⟨⟨_,_,rfl,hn,.inr ⟨Nat.one_pos,g',rfl,hg,rfl⟩⟩,?_⟩
    rfl
   ·simp only[go_sem,zE,zA,zM,zL,f1,f5,f6,f7,f68,f69,f70,fits,ISt.put_same,U];refine yQp rfl (yQp ⟨by omega,by omega⟩ λg'=>yQ8 λhg=>⟨⟨_,_,rfl,hn,.inr ⟨Nat.succ_pos _,g',rfl,wX7 al hg,?_⟩⟩,?_⟩)
    ·rw[yQ9,yXc al]
    ·rw[yQc O (show sub.length<=281474976710656 by omega)]
  rintro fr aq _ ⟨⟨tb,xb,f7,au,A⟩,f1,f5,f6,f68,f69,f70,rfl⟩;rw[lTl] at au;have aH:=A.sub;have a7:=A.es;have bi:=A.ap.to (show xb.length=sub.length by rw[au.len,yWq]);simp only[go_sem,zE,zA,zL,f6,f7,f69,f70,yQl (nLi _)];refine yQg (st':=st) (hS.trans aH) ⟨?_,rfl⟩;exact IsFmD.of ⟨ta,xa,tb,xb,by rw[ax],bb,hta,av.1,a7,by rw[aT];exact au.1⟩ bl av.2 bi au.2
