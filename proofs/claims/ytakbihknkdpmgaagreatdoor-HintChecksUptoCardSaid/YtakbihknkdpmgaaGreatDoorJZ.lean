/- Walks: Alpha; normal's closure. -/
import Derived.Test.YtakbihknkdpmgaaGreatDoorJY
set_option linter.all false
open Nat renaming reduceEqDiff → zE,reduceBEq → zB,reduceAdd → zA,reduceMul → zM,reduceLeDiff → zL
namespace Go.Proofs.Tryz
open Go Go.Iv
set_option maxRecDepth 4000
variable (gl:Nat->Option IV)
def Lw (G:Gl gl)(f g:Fm)(x y:IV)(O:IsFm f x)(J:IsFm g y)(hs:f.size<=1000000)(U:g.size<=1000000)(st:ISt) :
  ICall prog gl 114 [x,y] st (λr st'=>r=(iB f g:Bool)/\st'=st):=by
 have h1:=λst=>rv gl G f x O st hs;have h2:=λst=>rv gl G g y J st U;have h3:=λhf hg st=>Lc gl f g [] ⟨true,.nil,0⟩ (.inl ⟨rfl,rfl⟩) (by simp;omega) x y O J hf hg st;obtain⟨o,n,us,sub⟩:=f;obtain⟨t1,x1,t2,x2,rfl,_⟩:=O.mk;obtain⟨o',n',E,D⟩:=g;obtain⟨t3,x3,t4,x4,rfl,_⟩:=J.mk;refine iI func114 ?_;simp only[go_sem,zE,zA,zL];refine (h1 _).q ?_;cases hr:(Fm.mk o n us sub).right
 ·simp only[go_sem,zE];exact c_ ⟨by simp[iB,hr],rfl⟩
 ·simp only[go_sem,zE,zA,zL];refine (h2 _).q ?_;cases A:(Fm.mk o' n' E D).right
  ·simp only[go_sem,zE];exact c_ ⟨by simp[iB,A],rfl⟩
  ·simp only[go_sem,zE,zA,zL];refine (h3 (mQ hr).1 (mQ A).1 _).q ?_;simp only[go_sem,zE];exact c_ ⟨by simp[iB,hr,A],rfl⟩
def Lx {l:Ar}{j:Nat}{p:ByteArray×ByteArray}{nm:ByteArray}(h:l[j]?=some p)(hp:p.1=nm)(E:∀q∈l.drop (j+1),q.1≠nm):renF l.reverse nm=some (.mk true p.2 []):=by
 have A:=(lGs h).1;have hs:l=l.take j++p::l.drop (j+1):=by
  conv=>lhs;rw[<- el j l,fa A,(lGs h).2]
 unfold renF;rw[hs,List.reverse_append,List.reverse_cons,en,iS];have h1:(l.drop (j+1)).reverse.find? (λp=>decide (p.1=nm))=none:=by
  rw[jz];intro q D;simpa using E q (List.mem_reverse.1 D)
 rw[h1,Option.none_or,iS];simp[hp]
def Ly {l:Ar}{nm:ByteArray}(D:∀q∈l,q.1≠nm):renF l.reverse nm=none:=by
 unfold renF;rw[Option.map_eq_none_iff,jz];intro q A;simpa using D q (List.mem_reverse.1 A)
def Lz (nm:ByteArray)(b:Nat)(l:Ar)(tl:Tag)(htl:okEs tl 2)(hll:l.length<=1099511627776)(st:ISt)(U:st b=some (.box [.sl tl (arI l)])) :
  ICall prog gl 290 [nm,.raw (.pointer (some ⟨b,0,none⟩))] st (ue (renF l.reverse) nm st):=by
 have G:IntKind.i64.wrap ((l.length:Int)-1)=(l.length:Int)-1:=by rw[w64]<;>omega
 refine iI func290 ?_;simp only[go_sem,zE,U,pP,G];intros;refine dj l.length (λk fr st' ds=>(∀q∈l.drop (l.length-k),q.1≠nm)/\fr 0=nm/\fr 1=.iv (.raw (.pointer (some ⟨b,0,none⟩)))/\fr 3=.box [false,.raw (.string ⟨#[]⟩),()] /\
  fr 5=(((l.length-k:Nat):Int)-1:Int)/\st'=st/\ds=[]) ?_ ?_ ?_
 ·simp only[go_sem,zE,reduceCtorEq];simp
 ·rintro k fr st _ ab ⟨E,f0,f1,f3,f5,rfl,rfl⟩;obtain⟨j,hj⟩:∃j,l.length-k=j+1:=⟨l.length-k-1,by omega⟩
  obtain⟨p,hp⟩:=dB (show j<l.length by omega);rw[hj] at E;rw[hj,show (((j+1:Nat):Int)-1)=(j:Int) by omega] at f5;have D:IntKind.i64.wrap ((j:Int)-1)=(((l.length-(k+1):Nat):Int)-1):=by rw[w64]<;>omega
  have O:l.length-(k+1)=j:=by omega
  by_cases h1:p.1=nm
  ·have A:=Lx hp h1 E;simp only[go_sem,zE,zA,zL,reduceCtorEq,f0,f1,f3,f5,U,dz htl,iNn,oD hp,fits,dEt h1,dA];refine c_ ⟨rfl,.mk true p.2 [],_,?_,by rw[A];rfl,λw D=>by rw[A] at D;exact (eE D).symm⟩;exact⟨_,[],rfl,by simp only[go_sem],rfl⟩
  ·simp only[go_sem,zE,reduceCtorEq,f0,f1,f3,f5,U,dz htl,iNn,oD hp,fits,dEf h1,dA,D];rw[O,fa (by omega),(lGs hp).2];intro q J;rcases dN.1 J with rfl|J
   ·exact h1
   ·exact E q J
 ·rintro fr st _ ⟨E,f0,f1,f3,f5,rfl,rfl⟩;rw[fS,List.drop_zero] at E;rw[fS] at f5;have A:=Ly E;simp only[go_sem,zE,zA,zL,f3,f5,show decide ((0:Int)<=(((0:Nat):Int)-1))=false from rfl];refine c_ ⟨rfl,.mk false ⟨#[]⟩ [],_,?_,by rw[A];rfl,λw D=>by rw[A] at D;cases D⟩;exact⟨_,[],rfl,by simp only[go_sem],rfl⟩
def rK {st s:ISt}{b:Nat}{o:Option IObj}(h:subSt st s)(D:st b=none):subSt st (s.put b o):=λc x hc=>by
 rw[ISt.put_apply];split
 ·rename_i A;rw[A,D] at hc;cases hc
 ·exact h c x hc
def Dh {st s:ISt}{b:Nat}(h:subSt st s)(A:s b=none):st b=none:=by
 cases D:st b with
 | none=>rfl
 | some o=>rw[h b o D] at A;cases A
def frontAt.sub {st st':ISt}{k:Nat}{A:Tag}(h:frontAt st k A st'):subSt st st':=by
 rcases h with⟨_,_,rfl⟩|⟨_,g,_,D,rfl⟩
 ·exact subSt.refl _
 ·exact ff D
def frontAt.es {st st':ISt}{k:Nat}{A:Tag}(h:frontAt st k A st'):okEs A 3:=by
 rcases h with⟨_,h,_⟩|⟨_,g,rfl,_⟩
 ·exact .inl h
 ·exact .inr rfl
def frontF.sub {st st':ISt}{k:Nat}{A:Tag}(h:frontF st k A st'):subSt st st':=by
 rcases h with⟨_,_,rfl⟩|⟨_,g,_,D,rfl⟩
 ·exact subSt.refl _
 ·exact ff D
def frontF.es {st st':ISt}{k:Nat}{A:Tag}(h:frontF st k A st'):okEs A 4:=by
 rcases h with⟨_,h,_⟩|⟨_,g,rfl,_⟩
 ·exact .inl h
 ·exact .inr rfl
def frontAt.ap {st st':ISt}{k:Nat}{A:Tag}(h:frontAt st k A st'):appT k A:=by
 rcases h with⟨_,h,_⟩|⟨D,g,rfl,_⟩
 ·exact .inl h
 ·exact .inr ⟨D,rfl,g,rfl⟩
def frontF.ap {st st':ISt}{k:Nat}{A:Tag}(h:frontF st k A st'):appT k A:=by
 rcases h with⟨_,h,_⟩|⟨D,g,rfl,_⟩
 ·exact .inl h
 ·exact .inr ⟨D,rfl,g,rfl⟩
def _root_.Go.Iv.IsFmD.of {f:Fm}{a b:Value}{t D:Tag}{A ys:List IV}(h:IsFm f (.agg [.raw a,.raw b,.sl t A,.sl D ys]))(ha:appT A.length t)(O:dfrs A)(E:appT ys.length D)(J:dfrs ys) :
  IsFmD f (.agg [.raw a,.raw b,.sl t A,.sl D ys]):=by
 obtain⟨o,n,us,sub⟩:=f;obtain⟨_,_,_,_,he,U,h1,h2,h3,G⟩:=h.mk;cases he;exact IsFmD.intro U h1 (ha.to h2.len.symm) ⟨h2,O⟩ h3 (E.to G.len.symm) ⟨G,J⟩
def Di {st:ISt}{g E:Nat}{o:Option IObj}(A:st g=none)(D:E=g\/(st.put g o) E=none):st E=none:=by
 rcases D with rfl|D
 ·exact A
 ·by_cases h:E=g
  ·rw[h];exact A
  ·rw[dw h] at D;exact D
def NM (f:Fm):Prop:=∀(x:IV) (_:IsFm f x) (fv:List ByteArray) (m:Nat) (es:List (Value×IV)) (l:Ar) (tl:Tag) (_:arT tl l) (_:fv.length+l.length+f.size<=1099511627776) (_:f.ok=true) (st:ISt) (_:st m=some (.map .str es)) (_:SetOk es fv),
 ICall prog gl 245 [x,.raw (.map (some m)),.sl tl (arI l)] st (λr st'=>IsFmD (mh fv l.reverse f) r/\st'=st)
def LA (G:Gt gl)(op:Nat)(n:ByteArray)(us:List Tm)(sub:List Fm)(IH:∀a∈sub,NM gl a):NM gl (.mk op n us sub):=by
 intro x hx fv m es l tl htl hll bc st hm aV;obtain⟨t1,x1,t2,x2,rfl,bb,ba,aN,a8,aF⟩:=hx.mk;obtain⟨bt,aO,_⟩:=rG bc;simp only[Fm.size] at hll;have bs:=nM us;have br:=kX sub;refine ICall.intro (c:=cf prog gl [5,54,55,57,78] []) func245 rfl (by show _<=85;simp) (by kernel_rfl) ?_;simp only[go_sem,zE,zA,zL,fits];refine λb=>d_ λhb=>?_;simp only[go_sem,aN.len];intros;refine dj us.length (λk fr st' ds=>(∃ac ys,fr 7=.box [.raw (.int .u8 op),n,.sl ac ys,()]/\IsTmsD (gk (renF l.reverse) (us.take k)) ys/\frontAt (st.put b (some (.box [.sl tl (arI l)]))) k ac st') /\
  fr 1=.iv (.raw (.map (some m)))/\fr 3=.box [.raw (.int .u8 op),n,.sl t1 x1,.sl t2 x2]/\fr 5=.iv (.raw (.pointer (some ⟨b,0,none⟩)))/\fr 6=.box [.raw (.int .u8 0),.raw (.string ⟨#[]⟩),(),()] /\
  fr 21=.iv (.sl t1 x1)/\fr 22=us.length/\fr 23=.iv (.raw (.int .i64 k))/\ds=[]) ?_ ?_ ?_
 ·simp only[go_sem,zE];exact⟨⟨_,_,rfl,IsTmsD.nil,.inl ⟨rfl,rfl,rfl⟩⟩,rfl⟩
 ·rintro k fr E _ O ⟨⟨ac,ys,f7,hys,A⟩,f1,f3,f5,f6,f21,f22,f23,rfl⟩;obtain⟨a,ha⟩:=dB O;obtain⟨x,aJ,hx⟩:=aN.get ha;obtain⟨h1,h2⟩:=mc ha;have aa:=CC gl (renF l.reverse) (λnm u h=>by rw[(K7 h).1];omega) a x hx (by omega) (.func 290) [] [.raw (.pointer (some ⟨b,0,none⟩))] rfl (λi hi=>by cases hi;simp only[go_sem]) (st.put b (some (.box [.sl tl (arI l)])))
   (λnm s hs=>ICallV.of_ICall (by simp only[go_sem]) (Lz gl nm b l tl htl.es (by omega) s (hs b _ (b_ _ _ _)))) E A.sub
  have U:ys.length=k:=by rw[hys.len,mf,dQ];omega
  have J:∀r,IsTmD (iO (renF l.reverse) a) r->IsTmsD (gk (renF l.reverse) (us.take (k+1))) (ys++[r]):=λr hr=>by
   rw[dE ha,rC];exact hys.append (IsTmsD.one hr)
  obtain⟨v2,n2,l2⟩:=a;obtain⟨tx,cx,rfl,bF,bI⟩:=hx.mk;simp only[go_sem,zE,zB,zA,zL,f5,f7,f21,f22,f23,lt_i O,dz ba,iNn,aJ,fits];refine aa.mono ?_;rintro r _ ⟨hr,rfl⟩;have hn:=J r hr;clear J aa;generalize iO (renF l.reverse) (.mk v2 n2 l2)=w at hr;obtain⟨v3,n3,m3⟩:=w;obtain⟨t3,x3,rfl,_⟩:=hr.mk;rcases A with⟨rfl,hc,rfl⟩|⟨hk,g0,rfl,al,rfl⟩
  ·obtain⟨tf,tc,te⟩:=ac;simp only at hc;subst hc;obtain rfl:ys=[]:=eG U;simp only[go_sem,zE,zA,zM,zL,f1,f3,f5,f6,f7,f21,f22,f23,fits];refine fJ rfl λg'=>d_ λhg=>⟨⟨_,_,rfl,hn,.inr ⟨Nat.one_pos,g',rfl,hg,rfl⟩⟩,?_⟩
   rfl
  ·simp only[go_sem,zE,zA,zM,zL,f1,f3,f5,f6,f7,f21,f22,f23,fits,b_,U];refine fJ rfl (fJ ⟨by omega,by omega⟩ λg'=>d_ λhg=>⟨⟨_,_,rfl,hn,.inr ⟨jH _,g',rfl,Di al hg,?_⟩⟩,?_⟩)
   ·rw[eN,jo al]
   ·rw[dC O (by omega)]
 rintro fr E _ ⟨⟨ta,xa,f7,av,A⟩,f1,f3,f5,f6,f21,f22,f23,rfl⟩;rw[lTl] at av;have D:=A.sub;have hta:=A.es;have bl:=A.ap.to (show xa.length=us.length by rw[av.len,mf]);have an:E b=some (.box [.sl tl (arI l)]):=D b _ (b_ _ _ _);have ai:E m=some (.map .str es):=D m _ (by rw[dw (mJ hm hb)];exact hm);clear A;simp only[go_sem,zE,zA,zL,f3,f22,f23,dF (nLi _)];refine (pH gl op n _ _ _ _ _).q ?_;cases hq:isQ op;simp only[go_sem,zE,f3,aF.len];intros;obtain⟨nn,ax⟩:∃nn,nn=(if isQ op then iA (fv++l.reverse.map (·.2)) else n):=⟨_,rfl⟩
 obtain⟨lm,tm,sm,ae,aB,ag⟩:∃lm tm sm,lm=l/\tm=tl/\sm=E:=⟨_,_,_,rfl,rfl,rfl⟩
 have am:sm b=some (.box [.sl tm (arI lm)]):=by rw[ae,aB,ag];exact an
 have aD:sm m=some (.map .str es):=by rw[ag];exact ai
 have htm:arT tm lm:=by rw[ae,aB];exact htl
 have aU:lm.length<=l.length+1:=by rw[ae];omega
 have hS:subSt st sm:=by rw[ag];exact (ff hb).trans D
 have aT:(if isQ op then (n,iA (fv++l.reverse.map (·.2)))::l.reverse else l.reverse)=lm.reverse:=by rw[hq,ae];rfl
 rw[show n=nn by rw[ax,hq];rfl] at f7;rw[<- ag]
 rotate_left
 simp only[go_sem,zE,f5];refine λm2=>d_ λay=>?_;have aW:b≠m2:=mJ an ay;have aI:m≠m2:=mJ ai ay;have be:m≠b:=mJ hm hb;have eb:∀e,(E.put m2 (some (.map .str e))) b=some (.box [.sl tl (arI l)]):=λe=>by rw[dw aW];exact an
 simp only[go_sem,eb [],pP];intros;refine dj l.length (λk fr st' ds=>(∃af,SetOk af ((l.take k).map (·.2))/\st'=E.put m2 (some (.map .str af)))/\fr 1=.iv (.raw (.map (some m)))/\fr 3=.box [.raw (.int .u8 op),n,.sl t1 x1,.sl t2 x2]/\fr 5=.iv (.raw (.pointer (some ⟨b,0,none⟩))) /\
  fr 6=.box [.raw (.int .u8 0),.raw (.string ⟨#[]⟩),(),()]/\fr 7=.box [.raw (.int .u8 op),n,.sl ta xa,()]/\fr 10=.iv (.raw (.map (some m2))) /\
  fr 39=.iv (.sl tl (arI l))/\fr 40=l.length/\fr 41=.iv (.raw (.int .i64 k))/\ds=[]) ?_ ?_ ?_
 ·simp only[go_sem,zE,f1,f3,f5,f6,f7];exact⟨⟨[],SetOk.nil,rfl⟩,rfl⟩
 ·rintro k fr _ _ O ⟨⟨af,aw,rfl⟩,f1,f3,f5,f6,f7,f10,f39,f40,f41,rfl⟩;obtain⟨p,hp⟩:=dB O;simp only[go_sem,zE,zB,zA,zL,f1,f3,f5,f6,f7,f10,f39,f40,f41,lt_i O,dz htl.es,iNn,oD hp,fits,b_,dC O (by omega),eN];refine⟨_,?_,rfl⟩;rw[dE hp,eJ];exact aw.upd p.2
 rintro fr _ _ ⟨⟨af,aw,rfl⟩,f1,f3,f5,f6,f7,f10,f39,f40,f41,rfl⟩;rw[lTl] at aw;have ak:=λtg a6=>Df gl G [(m,fv),(m2,l.map (·.2))] tg a6 (by simp[allM];omega) (E.put m2 (some (.map .str af))) (λp hp=>by
  simp only[dN,ga,fe] at hp;rcases hp with rfl|rfl
  ·exact⟨es,by rw[dw aI];exact ai,aV⟩
  ·exact⟨af,b_ _ _ _,aw⟩)
 have bm:iA (allM [(m,fv),(m2,l.map (·.2))])=iA (fv++l.reverse.map (·.2)):=KU λx=>by
  simp[allM]
 rw[bm] at ak;generalize aC:iA (fv++l.reverse.map (·.2))=new at ak;simp only[go_sem,zE,zA,zM,zL,f1,f10,f40,f41,dF (nLi _),fits,pQ];refine (ak _ (by simp only[go_sem])).q ?_;obtain⟨lm,ae⟩:∃lm,lm=l++[(n,new)]:=⟨_,rfl⟩
 have aA:arI l++[.agg [n,new]]=arI lm:=by rw[ae,C5];rfl
 have aT:(if isQ op then (n,iA (fv++l.reverse.map (·.2)))::l.reverse else l.reverse)=lm.reverse:=by rw[hq,aC,ae];simp
 have ax:new=(if isQ op then iA (fv++l.reverse.map (·.2)) else n):=by rw[hq,aC];rfl
 have aU:lm.length<=l.length+1:=by rw[ae];simp
 generalize new=nn at ax aA ae ⊢;rcases htl with⟨rfl,rfl⟩|⟨g0,rfl⟩
 all_goals try
  simp only[go_sem,zE,zA,zM,zL,reduceCtorEq,f3,f5,f7,fits,eb af,jm,pP,C8,dW,C7,aF.len]
  first
   | refine λg=>d_ λhg=>?_
   | refine fJ ⟨by omega,by omega⟩ λg=>d_ λhg=>?_
  have aS:st m2=none:=Dh ((ff hb).trans D) ay;have bj:b≠g:=by
   rintro rfl;rw[dw aW] at hg;rw[hg] at an;cases an
  have bd:m≠g:=by
   rintro rfl;rw[dw aI] at hg;rw[hg] at ai;cases ai
  have bn:∀o:Option IObj,((E.put m2 (some (.map .str af))).put g o) b=_:=λo=>(dw bj).trans (eb af)
  first
   | have aE:[IV.agg [n,.raw (.string nn)]]=arI lm:=aA
   | have aE:=aA
  simp only[go_sem,zL,bn,aA,aE];intros;generalize ag:ISt.put (ISt.put (ISt.put E m2 _) g _) b _=sm;have bh:st g=none:=Dh ((ff hb).trans (D.trans (ff ay))) hg;have am:sm b=some (.box [.sl ⟨true,.app g,2⟩ (arI lm)]):=by rw[<- ag];exact b_ _ _ _
  have aD:sm m=some (.map .str es):=by rw[<- ag,dw be,dw bd,dw aI];exact ai
  have htm:arT ⟨true,.app g,2⟩ lm:=.inr ⟨g,rfl⟩;have hS:subSt st sm:=by rw[<- ag];exact rK (rK (rK ((ff hb).trans D) aS) bh) hb
  generalize (⟨true,.app g,2⟩:Tag)=tm at am htm
 all_goals
  refine dj sub.length (λk fr st' ds=>(∃ac ys,fr 7=.box [.raw (.int .u8 op),.raw (.string nn),.sl ta xa,.sl ac ys]/\IsFmsD (jM fv lm.reverse (sub.take k)) ys/\frontF sm k ac st') /\
   fr 1=.iv (.raw (.map (some m)))/\fr 5=.iv (.raw (.pointer (some ⟨b,0,none⟩)))/\fr 6=.box [.raw (.int .u8 0),.raw (.string ⟨#[]⟩),(),()] /\
   fr 68=.iv (.sl t2 x2)/\fr 69=sub.length/\fr 70=.iv (.raw (.int .i64 k))/\ds=[]) ?_ ?_ ?_
  ·simp only[go_sem,zE,f1,f5,f6,f7];exact⟨⟨_,_,rfl,IsFmsD.nil,.inl ⟨rfl,rfl,rfl⟩⟩,rfl⟩
  ·rintro k fr aq _ O ⟨⟨ac,ys,f7,hys,A⟩,f1,f5,f6,f68,f69,f70,rfl⟩;obtain⟨a,ha⟩:=dB O;obtain⟨x,aJ,hx⟩:=aF.get ha;obtain⟨h1,h2⟩:=jr ha;have bk:aq b=some (.box [.sl tm (arI lm)]):=A.sub b _ (by exact am);have bf:aq m=some (.map .str es):=A.sub m _ (by exact aD);have aa:=IH a (lMg ha) x hx fv m es lm tm (by exact htm) (by omega) (ur aO (lMg ha)) aq bf aV;have U:ys.length=k:=by rw[hys.len,xE,dQ];omega
   have J:∀r,IsFmD (mh fv lm.reverse a) r->IsFmsD (jM fv lm.reverse (sub.take (k+1))) (ys++[r]):=λr hr=>by
    rw[dE ha,C4];exact hys.append (IsFmsD.one hr)
   obtain⟨o2,n2,u2,s2⟩:=a;obtain⟨t3,x3,t4,x4,rfl,_⟩:=hx.mk;simp only[go_sem,zE,zB,zA,zL,f1,f5,f7,f68,f69,f70,lt_i O,dz a8,iNn,aJ,fits,bk];refine aa.mono ?_;rintro r _ ⟨hr,rfl⟩;have hn:=J r hr;clear J aa;obtain⟨t5,x5,t6,x6,rfl,_⟩:=hr.mk;rcases A with⟨rfl,hc,rfl⟩|⟨hk,g0,rfl,al,rfl⟩
   ·obtain⟨tf,tc,te⟩:=ac;simp only at hc;subst hc;obtain rfl:ys=[]:=eG U;simp only[go_sem,zE,zA,zM,zL,f1,f5,f6,f7,f68,f69,f70,fits];refine fJ rfl λg'=>d_ λhg=>⟨⟨_,_,rfl,hn,.inr ⟨Nat.one_pos,g',rfl,hg,rfl⟩⟩,?_⟩
    rfl
   ·simp only[go_sem,zE,zA,zM,zL,f1,f5,f6,f7,f68,f69,f70,fits,b_,U];refine fJ rfl (fJ ⟨by omega,by omega⟩ λg'=>d_ λhg=>⟨⟨_,_,rfl,hn,.inr ⟨jH _,g',rfl,Di al hg,?_⟩⟩,?_⟩)
    ·rw[eN,jo al]
    ·rw[dC O (by omega)]
  rintro fr aq _ ⟨⟨tb,xb,f7,au,A⟩,f1,f5,f6,f68,f69,f70,rfl⟩;rw[lTl] at au;have aH:=A.sub;have a7:=A.es;have bi:=A.ap.to (show xb.length=sub.length by rw[au.len,xE]);simp only[go_sem,zE,zA,zL,f6,f7,f69,f70,dF (nLi _)];refine ez (st':=st) (hS.trans aH) ⟨?_,rfl⟩;exact IsFmD.of ⟨ta,xa,tb,xb,by rw[ax],bb,hta,av.1,a7,by rw[aT];exact au.1⟩ bl av.2 bi au.2
