/- Walks: Alpha; normal's closure. -/
import Derived.Test.YtigeiecfkoimpaaGreatDoorJY
set_option linter.all false
open Nat renaming reduceEqDiff → zE,reduceBEq → zB,reduceAdd → zA,reduceMul → zM,reduceLeDiff → zL
namespace Go.Proofs.Tryz
open Go Go.Iv
set_option maxRecDepth 4000
variable (gl:Nat->Option IV)
def LH (G:Gl gl)(f g:Fm)(x y:IV)(hx:IsFm f x)(O:IsFm g y)(hs:f.size<=1000000)(ab:g.size<=1000000)(st:ISt) :
  ICall prog gl 62 [x,y] st (λr st'=>r=(mn f g:Bool)/\st'=st):=by
 have h1:=λst=>rH gl G f x hx st hs;have h2:=λst=>rH gl G g y O st ab;have h3:=λhf hg st=>Lo gl f g [] ⟨true,.nil,0⟩ (.inl ⟨rfl,rfl⟩) (by simp;omega) x y hx O hf hg st;obtain⟨o,n,us,sub⟩:=f;obtain⟨t1,x1,t2,x2,rfl,_⟩:=hx.mk;obtain⟨o',n',J,E⟩:=g;obtain⟨t3,x3,t4,x4,rfl,_⟩:=O.mk;refine iI func62 ?_;simp only[go_sem,zE,zA,zL];refine (h1 _).q ?_;cases hr:(Fm.mk o n us sub).right
 ·simp only[go_sem,zE];exact c_ ⟨by simp[mn,hr],rfl⟩
 ·simp only[go_sem,zE,zA,zL];refine (h2 _).q ?_;cases D:(Fm.mk o' n' J E).right
  ·simp only[go_sem,zE];exact c_ ⟨by simp[mn,D],rfl⟩
  ·simp only[go_sem,zE,zA,zL];refine (h3 (mV hr).1 (mV D).1 _).q ?_;simp only[go_sem,zE];exact c_ ⟨by simp[mn,hr,D],rfl⟩
def LI {l:Ar}{j:Nat}{p:ByteArray×ByteArray}{nm:ByteArray}(h:l[j]?=some p)(hp:p.1=nm)(G:∀q∈l.drop (j+1),q.1≠nm):renF l.reverse nm=some (.mk true p.2 []):=by
 have D:=(lGs h).1;have hs:l=l.take j++p::l.drop (j+1):=by
  conv=>lhs;rw[<- eA j l,fC D,(lGs h).2]
 unfold renF;rw[hs,List.reverse_append,List.reverse_cons,et,jb];have h1:(l.drop (j+1)).reverse.find? (λp=>decide (p.1=nm))=none:=by
  rw[jc];intro q E;simpa using G q (List.mem_reverse.1 E)
 rw[h1,Option.none_or,jb];simp[hp]
def LJ {l:Ar}{nm:ByteArray}(E:∀q∈l,q.1≠nm):renF l.reverse nm=none:=by
 unfold renF;rw[Option.map_eq_none_iff,jc];intro q D;simpa using E q (List.mem_reverse.1 D)
def LK (nm:ByteArray)(b:Nat)(l:Ar)(tl:Tag)(htl:okEs tl 2)(hll:l.length<=1099511627776)(st:ISt)(hb:st b=some (.box [.sl tl (arI l)])) :
  ICall prog gl 267 [nm,.raw (.pointer (some ⟨b,0,none⟩))] st (uv (renF l.reverse) nm st):=by
 have J:IntKind.i64.wrap ((l.length:Int)-1)=(l.length:Int)-1:=by rw[w64]<;>omega
 refine iI func267 ?_;simp only[go_sem,zE,hb,pW,J];intros;refine dt l.length (λk fr st' ds=>(∀q∈l.drop (l.length-k),q.1≠nm)/\fr 0=nm/\fr 1=.iv (.raw (.pointer (some ⟨b,0,none⟩)))/\fr 3=.box [false,.raw (.string ⟨#[]⟩),()] /\
  fr 5=(((l.length-k:Nat):Int)-1:Int)/\st'=st/\ds=[]) ?_ ?_ ?_
 ·simp only[go_sem,zE,reduceCtorEq];simp
 ·rintro k fr st _ ae ⟨G,f0,f1,f3,f5,rfl,rfl⟩;obtain⟨j,hj⟩:∃j,l.length-k=j+1:=⟨l.length-k-1,by omega⟩
  obtain⟨p,hp⟩:=dD (show j<l.length by omega);rw[hj] at G;rw[hj,show (((j+1:Nat):Int)-1)=(j:Int) by omega] at f5;have E:IntKind.i64.wrap ((j:Int)-1)=(((l.length-(k+1):Nat):Int)-1):=by rw[w64]<;>omega
  have aa:l.length-(k+1)=j:=by omega
  by_cases h1:p.1=nm
  ·have D:=LI hp h1 G;simp only[go_sem,zE,zA,zL,reduceCtorEq,f0,f1,f3,f5,hb,dB htl,iNn,oK hp,fits,dEt h1,dC];refine c_ ⟨rfl,.mk true p.2 [],_,?_,by rw[D];rfl,λw E=>by rw[D] at E;exact (eC E).symm⟩;exact⟨_,[],rfl,by simp only[go_sem],rfl⟩
  ·simp only[go_sem,zE,reduceCtorEq,f0,f1,f3,f5,hb,dB htl,iNn,oK hp,fits,dEf h1,dC,E];rw[aa,fC (by omega),(lGs hp).2];intro q O;rcases dF.1 O with rfl|O
   ·exact h1
   ·exact G q O
 ·rintro fr st _ ⟨G,f0,f1,f3,f5,rfl,rfl⟩;rw[fc,List.drop_zero] at G;rw[fc] at f5;have D:=LJ G;simp only[go_sem,zE,zA,zL,f3,f5,show decide ((0:Int)<=(((0:Nat):Int)-1))=false from rfl];refine c_ ⟨rfl,.mk false ⟨#[]⟩ [],_,?_,by rw[D];rfl,λw E=>by rw[D] at E;cases E⟩;exact⟨_,[],rfl,by simp only[go_sem],rfl⟩
def rS {st s:ISt}{b:Nat}{o:Option IObj}(h:subSt st s)(E:st b=none):subSt st (s.put b o):=λc x hc=>by
 rw[ISt.put_apply];split
 ·rename_i D;rw[D,E] at hc;cases hc
 ·exact h c x hc
def Dv {st s:ISt}{b:Nat}(h:subSt st s)(D:s b=none):st b=none:=by
 cases E:st b with
 | none=>rfl
 | some o=>rw[h b o E] at D;cases D
def frontAt.sub {st st':ISt}{k:Nat}{D:Tag}(h:frontAt st k D st'):subSt st st':=by
 rcases h with⟨_,_,rfl⟩|⟨_,g,_,E,rfl⟩
 ·exact subSt.refl _
 ·exact fb E
def frontAt.es {st st':ISt}{k:Nat}{D:Tag}(h:frontAt st k D st'):okEs D 3:=by
 rcases h with⟨_,h,_⟩|⟨_,g,rfl,_⟩
 ·exact .inl h
 ·exact .inr rfl
def frontF.sub {st st':ISt}{k:Nat}{D:Tag}(h:frontF st k D st'):subSt st st':=by
 rcases h with⟨_,_,rfl⟩|⟨_,g,_,E,rfl⟩
 ·exact subSt.refl _
 ·exact fb E
def frontF.es {st st':ISt}{k:Nat}{D:Tag}(h:frontF st k D st'):okEs D 4:=by
 rcases h with⟨_,h,_⟩|⟨_,g,rfl,_⟩
 ·exact .inl h
 ·exact .inr rfl
def frontAt.ap {st st':ISt}{k:Nat}{D:Tag}(h:frontAt st k D st'):appT k D:=by
 rcases h with⟨_,h,_⟩|⟨E,g,rfl,_⟩
 ·exact .inl h
 ·exact .inr ⟨E,rfl,g,rfl⟩
def frontF.ap {st st':ISt}{k:Nat}{D:Tag}(h:frontF st k D st'):appT k D:=by
 rcases h with⟨_,h,_⟩|⟨E,g,rfl,_⟩
 ·exact .inl h
 ·exact .inr ⟨E,rfl,g,rfl⟩
def _root_.Go.Iv.IsFmD.of {f:Fm}{a b:Value}{t D:Tag}{xs ys:List IV}(h:IsFm f (.agg [.raw a,.raw b,.sl t xs,.sl D ys]))(ha:appT xs.length t)(O:dfrs xs)(E:appT ys.length D)(J:dfrs ys) :
  IsFmD f (.agg [.raw a,.raw b,.sl t xs,.sl D ys]):=by
 obtain⟨o,n,us,sub⟩:=f;obtain⟨_,_,_,_,he,ho,h1,h2,h3,G⟩:=h.mk;cases he;exact IsFmD.intro ho h1 (ha.to h2.len.symm) ⟨h2,O⟩ h3 (E.to G.len.symm) ⟨G,J⟩
def Dw {st:ISt}{g G:Nat}{o:Option IObj}(D:st g=none)(E:G=g\/(st.put g o) G=none):st G=none:=by
 rcases E with rfl|E
 ·exact D
 ·by_cases h:G=g
  ·rw[h];exact D
  ·rw[dz h] at E;exact E
def NM (f:Fm):Prop:=∀(x:IV) (_:IsFm f x) (fv:List ByteArray) (m:Nat) (es:List (Value×IV)) (l:Ar) (tl:Tag) (_:arT tl l) (_:fv.length+l.length+f.size<=1099511627776) (_:f.ok=true) (st:ISt) (_:st m=some (.map .str es)) (_:SetOk es fv),
 ICall prog gl 243 [x,.raw (.map (some m)),.sl tl (arI l)] st (λr st'=>IsFmD (mo fv l.reverse f) r/\st'=st)
def LL (G:Gt gl)(op:Nat)(n:ByteArray)(us:List Tm)(sub:List Fm)(IH:∀a∈sub,NM gl a):NM gl (.mk op n us sub):=by
 intro x hx fv m es l tl htl hll be st hm aX;obtain⟨t1,x1,t2,x2,rfl,bd,bc,aQ,bb,aH⟩:=hx.mk;obtain⟨bw,aS,_⟩:=rO be;simp only[Fm.size] at hll;have bu:=oJ us;have bt:=mS sub;refine ICall.intro (c:=cf prog gl [5,54,55,57,78] []) func243 rfl (by show _<=85;simp) (by kernel_rfl) ?_;simp only[go_sem,zE,zA,zL,fits];refine λb=>d_ λhb=>?_;simp only[go_sem,aQ.len];intros;refine dt us.length (λk fr st' ds=>(∃af ys,fr 7=.box [.raw (.int .u8 op),n,.sl af ys,()]/\IsTmsD (gr (renF l.reverse) (us.take k)) ys/\frontAt (st.put b (some (.box [.sl tl (arI l)]))) k af st') /\
  fr 1=.iv (.raw (.map (some m)))/\fr 3=.box [.raw (.int .u8 op),n,.sl t1 x1,.sl t2 x2]/\fr 5=.iv (.raw (.pointer (some ⟨b,0,none⟩)))/\fr 6=.box [.raw (.int .u8 0),.raw (.string ⟨#[]⟩),(),()] /\
  fr 21=.iv (.sl t1 x1)/\fr 22=us.length/\fr 23=.iv (.raw (.int .i64 k))/\ds=[]) ?_ ?_ ?_
 ·simp only[go_sem,zE];exact⟨⟨_,_,rfl,IsTmsD.nil,.inl ⟨rfl,rfl,rfl⟩⟩,rfl⟩
 ·rintro k fr J _ aa ⟨⟨af,ys,f7,hys,D⟩,f1,f3,f5,f6,f21,f22,f23,rfl⟩;obtain⟨a,ha⟩:=dD aa;obtain⟨x,aL,hx⟩:=aQ.get ha;obtain⟨h1,h2⟩:=mP ha;have ac:=CR gl (renF l.reverse) (λnm u h=>by rw[(Lg h).1];omega) a x hx (by omega) (.func 267) [] [.raw (.pointer (some ⟨b,0,none⟩))] rfl (λi hi=>by cases hi;simp only[go_sem]) (st.put b (some (.box [.sl tl (arI l)])))
   (λnm s hs=>ICallV.of_ICall (by simp only[go_sem]) (LK gl nm b l tl htl.es (by omega) s (hs b _ (b_ _ _ _)))) J D.sub
  have ab:ys.length=k:=by rw[hys.len,mj,dU];omega
  have O:∀r,IsTmD (iV (renF l.reverse) a) r->IsTmsD (gr (renF l.reverse) (us.take (k+1))) (ys++[r]):=λr hr=>by
   rw[dM ha,rK];exact hys.append (IsTmsD.one hr)
  obtain⟨v2,n2,l2⟩:=a;obtain⟨tx,cx,rfl,bH,bK⟩:=hx.mk;simp only[go_sem,zE,zB,zA,zL,f5,f7,f21,f22,f23,lt_i aa,dB bc,iNn,aL,fits];refine ac.mono ?_;rintro r _ ⟨hr,rfl⟩;have hn:=O r hr;clear O ac;generalize iV (renF l.reverse) (.mk v2 n2 l2)=w at hr;obtain⟨v3,n3,m3⟩:=w;obtain⟨t3,x3,rfl,_⟩:=hr.mk;rcases D with⟨rfl,hc,rfl⟩|⟨hk,g0,rfl,an,rfl⟩
  ·obtain⟨tf,tc,te⟩:=af;simp only at hc;subst hc;obtain rfl:ys=[]:=ev ab;simp only[go_sem,zE,zA,zM,zL,f1,f3,f5,f6,f7,f21,f22,f23,fits];refine fO rfl λg'=>d_ λhg=>⟨⟨_,_,rfl,hn,.inr ⟨Nat.one_pos,g',rfl,hg,rfl⟩⟩,?_⟩
   rfl
  ·simp only[go_sem,zE,zA,zM,zL,f1,f3,f5,f6,f7,f21,f22,f23,fits,b_,ab];refine fO rfl (fO ⟨by omega,by omega⟩ λg'=>d_ λhg=>⟨⟨_,_,rfl,hn,.inr ⟨hZ _,g',rfl,Dw an hg,?_⟩⟩,?_⟩)
   ·rw[eN,jy an]
   ·rw[dL aa (by omega)]
 rintro fr J _ ⟨⟨ta,xa,f7,ax,D⟩,f1,f3,f5,f6,f21,f22,f23,rfl⟩;rw[lTl] at ax;have E:=D.sub;have hta:=D.es;have bn:=D.ap.to (show xa.length=us.length by rw[ax.len,mj]);have aq:J b=some (.box [.sl tl (arI l)]):=E b _ (b_ _ _ _);have ak:J m=some (.map .str es):=E m _ (by rw[dz (mO hm hb)];exact hm);clear D;simp only[go_sem,zE,zA,zL,f3,f22,f23,dS (nLi _)];refine (pO gl op n _ _ _ _ _).q ?_;cases hq:isQ op;simp only[go_sem,zE,f3,aH.len];intros;obtain⟨nn,az⟩:∃nn,nn=(if isQ op then iH (fv++l.reverse.map (·.2)) else n):=⟨_,rfl⟩
 obtain⟨lm,tm,sm,ag,aD,ai⟩:∃lm tm sm,lm=l/\tm=tl/\sm=J:=⟨_,_,_,rfl,rfl,rfl⟩
 have ao:sm b=some (.box [.sl tm (arI lm)]):=by rw[ag,aD,ai];exact aq
 have aF:sm m=some (.map .str es):=by rw[ai];exact ak
 have htm:arT tm lm:=by rw[ag,aD];exact htl
 have aW:lm.length<=l.length+1:=by rw[ag];omega
 have hS:subSt st sm:=by rw[ai];exact (fb hb).trans E
 have aV:(if isQ op then (n,iH (fv++l.reverse.map (·.2)))::l.reverse else l.reverse)=lm.reverse:=by rw[hq,ag];rfl
 rw[show n=nn by rw[az,hq];rfl] at f7;rw[<- ai]
 rotate_left
 simp only[go_sem,zE,f5];refine λm2=>d_ λaA=>?_;have aY:b≠m2:=mO aq aA;have aK:m≠m2:=mO ak aA;have bg:m≠b:=mO hm hb;have eb:∀e,(J.put m2 (some (.map .str e))) b=some (.box [.sl tl (arI l)]):=λe=>by rw[dz aY];exact aq
 simp only[go_sem,eb [],pW];intros;refine dt l.length (λk fr st' ds=>(∃ah,SetOk ah ((l.take k).map (·.2))/\st'=J.put m2 (some (.map .str ah)))/\fr 1=.iv (.raw (.map (some m)))/\fr 3=.box [.raw (.int .u8 op),n,.sl t1 x1,.sl t2 x2]/\fr 5=.iv (.raw (.pointer (some ⟨b,0,none⟩))) /\
  fr 6=.box [.raw (.int .u8 0),.raw (.string ⟨#[]⟩),(),()]/\fr 7=.box [.raw (.int .u8 op),n,.sl ta xa,()]/\fr 10=.iv (.raw (.map (some m2))) /\
  fr 39=.iv (.sl tl (arI l))/\fr 40=l.length/\fr 41=.iv (.raw (.int .i64 k))/\ds=[]) ?_ ?_ ?_
 ·simp only[go_sem,zE,f1,f3,f5,f6,f7];exact⟨⟨[],SetOk.nil,rfl⟩,rfl⟩
 ·rintro k fr _ _ aa ⟨⟨ah,ay,rfl⟩,f1,f3,f5,f6,f7,f10,f39,f40,f41,rfl⟩;obtain⟨p,hp⟩:=dD aa;simp only[go_sem,zE,zB,zA,zL,f1,f3,f5,f6,f7,f10,f39,f40,f41,lt_i aa,dB htl.es,iNn,oK hp,fits,b_,dL aa (by omega),eN];refine⟨_,?_,rfl⟩;rw[dM hp,eQ];exact ay.upd p.2
 rintro fr _ _ ⟨⟨ah,ay,rfl⟩,f1,f3,f5,f6,f7,f10,f39,f40,f41,rfl⟩;rw[lTl] at ay;have am:=λtg a8=>Dt gl G [(m,fv),(m2,l.map (·.2))] tg a8 (by simp[allM];omega) (J.put m2 (some (.map .str ah))) (λp hp=>by
  simp only[dF,fJ,eU] at hp;rcases hp with rfl|rfl
  ·exact⟨es,by rw[dz aK];exact ak,aX⟩
  ·exact⟨ah,b_ _ _ _,ay⟩)
 have bo:iH (allM [(m,fv),(m2,l.map (·.2))])=iH (fv++l.reverse.map (·.2)):=K4 λx=>by
  simp[allM]
 rw[bo] at am;generalize aE:iH (fv++l.reverse.map (·.2))=new at am;simp only[go_sem,zE,zA,zM,zL,f1,f10,f40,f41,dS (nLi _),fits,pX];refine (am _ (by simp only[go_sem])).q ?_;obtain⟨lm,ag⟩:∃lm,lm=l++[(n,new)]:=⟨_,rfl⟩
 have aC:arI l++[.agg [n,new]]=arI lm:=by rw[ag,Dh];rfl
 have aV:(if isQ op then (n,iH (fv++l.reverse.map (·.2)))::l.reverse else l.reverse)=lm.reverse:=by rw[hq,aE,ag];simp
 have az:new=(if isQ op then iH (fv++l.reverse.map (·.2)) else n):=by rw[hq,aE];rfl
 have aW:lm.length<=l.length+1:=by rw[ag];simp
 generalize new=nn at az aC ag ⊢;rcases htl with⟨rfl,rfl⟩|⟨g0,rfl⟩
 all_goals try
  simp only[go_sem,zE,zA,zM,zL,reduceCtorEq,f3,f5,f7,fits,eb ah,kL,pW,Dk,eh,Dj,aH.len]
  first
   | refine λg=>d_ λhg=>?_
   | refine fO ⟨by omega,by omega⟩ λg=>d_ λhg=>?_
  have aU:st m2=none:=Dv ((fb hb).trans E) aA;have bl:b≠g:=by
   rintro rfl;rw[dz aY] at hg;rw[hg] at aq;cases aq
  have bf:m≠g:=by
   rintro rfl;rw[dz aK] at hg;rw[hg] at ak;cases ak
  have bp:∀o:Option IObj,((J.put m2 (some (.map .str ah))).put g o) b=_:=λo=>(dz bl).trans (eb ah)
  first
   | have aG:[IV.agg [n,.raw (.string nn)]]=arI lm:=aC
   | have aG:=aC
  simp only[go_sem,zL,bp,aC,aG];intros;generalize ai:ISt.put (ISt.put (ISt.put J m2 _) g _) b _=sm;have bj:st g=none:=Dv ((fb hb).trans (E.trans (fb aA))) hg;have ao:sm b=some (.box [.sl ⟨true,.app g,2⟩ (arI lm)]):=by rw[<- ai];exact b_ _ _ _
  have aF:sm m=some (.map .str es):=by rw[<- ai,dz bg,dz bf,dz aK];exact ak
  have htm:arT ⟨true,.app g,2⟩ lm:=.inr ⟨g,rfl⟩;have hS:subSt st sm:=by rw[<- ai];exact rS (rS (rS ((fb hb).trans E) aU) bj) hb
  generalize (⟨true,.app g,2⟩:Tag)=tm at ao htm
 all_goals
  refine dt sub.length (λk fr st' ds=>(∃af ys,fr 7=.box [.raw (.int .u8 op),.raw (.string nn),.sl ta xa,.sl af ys]/\IsFmsD (jS fv lm.reverse (sub.take k)) ys/\frontF sm k af st') /\
   fr 1=.iv (.raw (.map (some m)))/\fr 5=.iv (.raw (.pointer (some ⟨b,0,none⟩)))/\fr 6=.box [.raw (.int .u8 0),.raw (.string ⟨#[]⟩),(),()] /\
   fr 68=.iv (.sl t2 x2)/\fr 69=sub.length/\fr 70=.iv (.raw (.int .i64 k))/\ds=[]) ?_ ?_ ?_
  ·simp only[go_sem,zE,f1,f5,f6,f7];exact⟨⟨_,_,rfl,IsFmsD.nil,.inl ⟨rfl,rfl,rfl⟩⟩,rfl⟩
  ·rintro k fr av _ aa ⟨⟨af,ys,f7,hys,D⟩,f1,f5,f6,f68,f69,f70,rfl⟩;obtain⟨a,ha⟩:=dD aa;obtain⟨x,aL,hx⟩:=aH.get ha;obtain⟨h1,h2⟩:=j8 ha;have bm:av b=some (.box [.sl tm (arI lm)]):=D.sub b _ (by exact ao);have bh:av m=some (.map .str es):=D.sub m _ (by exact aF);have ac:=IH a (lMg ha) x hx fv m es lm tm (by exact htm) (by omega) (uE aS (lMg ha)) av bh aX;have ab:ys.length=k:=by rw[hys.len,xR,dU];omega
   have O:∀r,IsFmD (mo fv lm.reverse a) r->IsFmsD (jS fv lm.reverse (sub.take (k+1))) (ys++[r]):=λr hr=>by
    rw[dM ha,Dg];exact hys.append (IsFmsD.one hr)
   obtain⟨o2,n2,u2,s2⟩:=a;obtain⟨t3,x3,t4,x4,rfl,_⟩:=hx.mk;simp only[go_sem,zE,zB,zA,zL,f1,f5,f7,f68,f69,f70,lt_i aa,dB bb,iNn,aL,fits,bm];refine ac.mono ?_;rintro r _ ⟨hr,rfl⟩;have hn:=O r hr;clear O ac;obtain⟨t5,x5,t6,x6,rfl,_⟩:=hr.mk;rcases D with⟨rfl,hc,rfl⟩|⟨hk,g0,rfl,an,rfl⟩
   ·obtain⟨tf,tc,te⟩:=af;simp only at hc;subst hc;obtain rfl:ys=[]:=ev ab;simp only[go_sem,zE,zA,zM,zL,f1,f5,f6,f7,f68,f69,f70,fits];refine fO rfl λg'=>d_ λhg=>⟨⟨_,_,rfl,hn,.inr ⟨Nat.one_pos,g',rfl,hg,rfl⟩⟩,?_⟩
    rfl
   ·simp only[go_sem,zE,zA,zM,zL,f1,f5,f6,f7,f68,f69,f70,fits,b_,ab];refine fO rfl (fO ⟨by omega,by omega⟩ λg'=>d_ λhg=>⟨⟨_,_,rfl,hn,.inr ⟨hZ _,g',rfl,Dw an hg,?_⟩⟩,?_⟩)
    ·rw[eN,jy an]
    ·rw[dL aa (by omega)]
  rintro fr av _ ⟨⟨tb,xb,f7,aw,D⟩,f1,f5,f6,f68,f69,f70,rfl⟩;rw[lTl] at aw;have aJ:=D.sub;have ba:=D.es;have bk:=D.ap.to (show xb.length=sub.length by rw[aw.len,xR]);simp only[go_sem,zE,zA,zL,f6,f7,f69,f70,dS (nLi _)];refine eI (st':=st) (hS.trans aJ) ⟨?_,rfl⟩;exact IsFmD.of ⟨ta,xa,tb,xb,by rw[az],bd,hta,ax.1,ba,by rw[aV];exact aw.1⟩ bn ax.2 bk aw.2
