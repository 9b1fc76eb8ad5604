/- Walks: Alpha; normal's closure. -/
import Derived.Test.YtnknaopjcifoaaaGreatDoorJY
set_option linter.all false
open Nat renaming reduceEqDiff → zE,reduceBEq → zB,reduceAdd → zA,reduceMul → zM,reduceLeDiff → zL
namespace Go.Proofs.Tryz
open Go Go.Iv
set_option maxRecDepth 4000
variable (gl:Nat->Option IV)
theorem wUu (G:Gl gl)(f g:Fm)(x y:IV)(hx:IsFm f x)(hy:IsFm g y)(hs:f.size<=1000000)(hs':g.size<=1000000)(st:ISt) :
  ICall prog gl 111 [x,y] st (λr st'=>r=.raw (.bool (yKg f g))/\st'=st):=by
 have h1:=λst=>zV1 gl G f x hx st hs;have h2:=λst=>zV1 gl G g y hy st hs';have h3:=λhf hg st=>wUl gl f g [] ⟨true,.nil,0⟩ (.inl ⟨rfl,rfl⟩) (by simp;omega) x y hx hy hf hg st;obtain⟨o,n,us,sub⟩:=f;obtain⟨t1,x1,t2,x2,rfl,_⟩:=hx.mk;obtain⟨o',n',us',sub'⟩:=g;obtain⟨t3,x3,t4,x4,rfl,_⟩:=hy.mk;refine iI func111 ?_;simp only[go_sem,zE,zA,zL];refine (h1 _).mono ?_;rintro _ st ⟨rfl,rfl⟩;cases hr:(Fm.mk o n us sub).right
 ·simp only[go_sem,zE];exact yQ0 ⟨by simp[yKg,hr],rfl⟩
 ·simp only[go_sem,zE,zA,zL];refine (h2 _).mono ?_;rintro _ st ⟨rfl,rfl⟩;cases hr':(Fm.mk o' n' us' sub').right
  ·simp only[go_sem,zE];exact yQ0 ⟨by simp[yKg,hr'],rfl⟩
  ·simp only[go_sem,zE,zA,zL];refine (h3 (yJu hr).1 (yJu hr').1 _).mono ?_;rintro _ st ⟨rfl,rfl⟩;simp only[go_sem,zE];exact yQ0 ⟨by simp[yKg,hr,hr'],rfl⟩
theorem wG8 {l:Ar}{j:Nat}{p:ByteArray×ByteArray}{nm:ByteArray}(h:l[j]?=some p)(hp:p.1=nm)(hn:∀q∈l.drop (j+1),q.1≠nm):renF l.reverse nm=some (.mk true p.2 []):=by
 have hlt:=(lGs h).1;have hs:l=l.take j++p::l.drop (j+1):=by
  conv=>lhs;rw[<- List.take_append_drop j l,List.drop_eq_getElem_cons hlt,(lGs h).2]
 unfold renF;rw[hs,List.reverse_append,List.reverse_cons,List.append_assoc,List.find?_append];have h1:(l.drop (j+1)).reverse.find? (λp=>decide (p.1=nm))=none:=by
  rw[List.find?_eq_none];intro q hq;simpa using hn q (List.mem_reverse.1 hq)
 rw[h1,Option.none_or,List.find?_append];simp[hp]
theorem wQ1 {l:Ar}{nm:ByteArray}(hn:∀q∈l,q.1≠nm):renF l.reverse nm=none:=by
 unfold renF;rw[Option.map_eq_none_iff,List.find?_eq_none];intro q hq;simpa using hn q (List.mem_reverse.1 hq)
theorem wQj (nm:ByteArray)(b:Nat)(l:Ar)(tl:Tag)(htl:okEs tl 2)(hll:l.length<=1099511627776)(st:ISt)(hb:st b=some (.box [.sl tl (arI l)])) :
  ICall prog gl 134 [.raw (.string nm),.raw (.pointer (some ⟨b,0,none⟩))] st (wVs (renF l.reverse) nm st):=by
 have hwl:IntKind.i64.wrap ((l.length:Int)-1)=(l.length:Int)-1:=by rw[w64]<;>omega
 refine iI func134 ?_;simp only[go_sem,zE,hb,yJz,hwl];intros;refine LoopC.ctr l.length (λk fr st' ds=>(∀q∈l.drop (l.length-k),q.1≠nm)/\fr 0=.iv (.raw (.string nm))/\fr 1=.iv (.raw (.pointer (some ⟨b,0,none⟩)))/\fr 3=.box [.raw (.bool false),.raw (.string ⟨#[]⟩),.sl ⟨true,.nil,0⟩ []] /\
  fr 5=.iv (.raw (.int .i64 (((l.length-k:Nat):Int)-1)))/\st'=st/\ds=[]) ?_ ?_ ?_
 ·simp only[go_sem,zE,reduceCtorEq];simp
 ·rintro k fr st _ hlt ⟨hn,f0,f1,f3,f5,rfl,rfl⟩;obtain⟨j,hj⟩:∃j,l.length-k=j+1:=⟨l.length-k-1,by omega⟩
  obtain⟨p,hp⟩:=yQ3 (show j<l.length by omega);rw[hj] at hn;rw[hj,show (((j+1:Nat):Int)-1)=(j:Int) by omega] at f5;have hw:IntKind.i64.wrap ((j:Int)-1)=(((l.length-(k+1):Nat):Int)-1):=by rw[w64]<;>omega
  have hjk:l.length-(k+1)=j:=by omega
  by_cases h1:p.1=nm
  ·have hrn:=wG8 hp h1 hn;simp only[go_sem,zE,zA,zL,reduceCtorEq,f0,f1,f3,f5,hb,yQ1 htl,iNn,yUp hp,fits,dEt h1,decide_true];refine yQ0 ⟨rfl,.mk true p.2 [],_,?_,by rw[hrn];rfl,λw hw=>by rw[hrn] at hw;exact (Option.some.inj hw).symm⟩;exact⟨_,[],rfl,by simp only[go_sem],rfl⟩
  ·simp only[go_sem,zE,reduceCtorEq,f0,f1,f3,f5,hb,yQ1 htl,iNn,yUp hp,fits,dEf h1,decide_true,hw];rw[hjk,List.drop_eq_getElem_cons (by omega),(lGs hp).2];intro q hq;rcases List.mem_cons.1 hq with rfl|hq
   ·exact h1
   ·exact hn q hq
 ·rintro fr st _ ⟨hn,f0,f1,f3,f5,rfl,rfl⟩;rw[Nat.sub_self,List.drop_zero] at hn;rw[Nat.sub_self] at f5;have hrn:=wQ1 hn;simp only[go_sem,zE,zA,zL,f3,f5,show decide ((0:Int)<=(((0:Nat):Int)-1))=false from rfl];refine yQ0 ⟨rfl,.mk false ⟨#[]⟩ [],_,?_,by rw[hrn];rfl,λw hw=>by rw[hrn] at hw;cases hw⟩;exact⟨_,[],rfl,by simp only[go_sem],rfl⟩
theorem yJx {st s:ISt}{b:Nat}{o:Option IObj}(h:subSt st s)(hb:st b=none):subSt st (s.put b o):=λc x hc=>by
 rw[ISt.put_apply];split
 ·rename_i hcb;rw[hcb,hb] at hc;cases hc
 ·exact h c x hc
theorem yY4 {st s:ISt}{b:Nat}(h:subSt st s)(hb:s b=none):st b=none:=by
 cases hq:st b with
 | none=>rfl
 | some o=>rw[h b o hq] at hb;cases hb
theorem frontAt.sub {st st':ISt}{k:Nat}{tg:Tag}(h:frontAt st k tg st'):subSt st st':=by
 rcases h with⟨_,_,rfl⟩|⟨_,g,_,hg,rfl⟩
 ·exact subSt.refl _
 ·exact yQe hg
theorem frontAt.es {st st':ISt}{k:Nat}{tg:Tag}(h:frontAt st k tg st'):okEs tg 3:=by
 rcases h with⟨_,h,_⟩|⟨_,g,rfl,_⟩
 ·exact .inl h
 ·exact .inr rfl
theorem frontF.sub {st st':ISt}{k:Nat}{tg:Tag}(h:frontF st k tg st'):subSt st st':=by
 rcases h with⟨_,_,rfl⟩|⟨_,g,_,hg,rfl⟩
 ·exact subSt.refl _
 ·exact yQe hg
theorem frontF.es {st st':ISt}{k:Nat}{tg:Tag}(h:frontF st k tg st'):okEs tg 4:=by
 rcases h with⟨_,h,_⟩|⟨_,g,rfl,_⟩
 ·exact .inl h
 ·exact .inr rfl
theorem frontAt.ap {st st':ISt}{k:Nat}{tg:Tag}(h:frontAt st k tg st'):appT k tg:=by
 rcases h with⟨_,h,_⟩|⟨hk,g,rfl,_⟩
 ·exact .inl h
 ·exact .inr ⟨hk,rfl,g,rfl⟩
theorem frontF.ap {st st':ISt}{k:Nat}{tg:Tag}(h:frontF st k tg st'):appT k tg:=by
 rcases h with⟨_,h,_⟩|⟨hk,g,rfl,_⟩
 ·exact .inl h
 ·exact .inr ⟨hk,rfl,g,rfl⟩
theorem _root_.Go.Iv.IsFmD.of {f:Fm}{a b:Value}{t t':Tag}{xs ys:List IV}(h:IsFm f (.agg [.raw a,.raw b,.sl t xs,.sl t' ys]))(ha:appT xs.length t)(hx:dfrs xs)(ha':appT ys.length t')(hy:dfrs ys) :
  IsFmD f (.agg [.raw a,.raw b,.sl t xs,.sl t' ys]):=by
 obtain⟨o,n,us,sub⟩:=f;obtain⟨_,_,_,_,he,ho,h1,h2,h3,h4⟩:=h.mk;cases he;exact IsFmD.intro ho h1 (ha.to h2.len.symm) ⟨h2,hx⟩ h3 (ha'.to h4.len.symm) ⟨h4,hy⟩
theorem zYo {st:ISt}{g g':Nat}{o:Option IObj}(hg0:st g=none)(hg:g'=g\/(st.put g o) g'=none):st g'=none:=by
 rcases hg with rfl|hg
 ·exact hg0
 ·by_cases h:g'=g
  ·rw[h];exact hg0
  ·rw[yZe h] at hg;exact hg
def NM (f:Fm):Prop:=∀(x:IV) (_:IsFm f x) (fv:List ByteArray) (m:Nat) (es:List (Value×IV)) (l:Ar) (tl:Tag) (_:arT tl l) (_:fv.length+l.length+f.size<=1099511627776) (_:f.ok=true) (st:ISt) (_:st m=some (.map .str es)) (_:SetOk es fv),
 ICall prog gl 95 [x,.raw (.map (some m)),.sl tl (arI l)] st (λr st'=>IsFmD (xXp fv l.reverse f) r/\st'=st)
theorem xXo (G:Gt gl)(op:Nat)(n:ByteArray)(us:List Tm)(sub:List Fm)(IH:∀a∈sub,NM gl a):NM gl (.mk op n us sub):=by
 intro x hx fv m es l tl htl hll hok st hm hes;obtain⟨t1,x1,t2,x2,rfl,hop,ht1,hx1,ht2,hx2⟩:=hx.mk;obtain⟨hok1,hok2,_⟩:=yY3 hok;simp only[Fm.size] at hll;have hsl1:=yXz us;have hsl2:=yZn sub;refine ICall.intro (c:=cf prog gl [5,54,55,57,78] []) func95 rfl (by show _<=85;simp) (by kernel_rfl) ?_;simp only[go_sem,zE,zA,zL,fits];refine λb=>yQc λhb=>?_;simp only[go_sem,hx1.len];intros;refine LoopC.ctr us.length (λk fr st' ds=>(∃tg' ys,fr 7=.box [.raw (.int .u8 op),.raw (.string n),.sl tg' ys,.sl ⟨true,.nil,0⟩ []]/\IsTmsD (yZg (renF l.reverse) (us.take k)) ys/\frontAt (st.put b (some (.box [.sl tl (arI l)]))) k tg' st') /\
  fr 1=.iv (.raw (.map (some m)))/\fr 3=.box [.raw (.int .u8 op),.raw (.string n),.sl t1 x1,.sl t2 x2]/\fr 5=.iv (.raw (.pointer (some ⟨b,0,none⟩)))/\fr 6=.box [.raw (.int .u8 0),.raw (.string ⟨#[]⟩),.sl ⟨true,.nil,0⟩ [],.sl ⟨true,.nil,0⟩ []] /\
  fr 21=.iv (.sl t1 x1)/\fr 22=.iv (.raw (.int .i64 us.length))/\fr 23=.iv (.raw (.int .i64 k))/\ds=[]) ?_ ?_ ?_
 ·simp only[go_sem,zE];exact⟨⟨_,_,rfl,IsTmsD.nil,.inl ⟨rfl,rfl,rfl⟩⟩,rfl⟩
 ·rintro k fr st1 _ hlt ⟨⟨tg',ys,f7,hys,hfr⟩,f1,f3,f5,f6,f21,f22,f23,rfl⟩;obtain⟨a,ha⟩:=yQ3 hlt;obtain⟨x,hkx,hx⟩:=hx1.get ha;obtain⟨h1,h2⟩:=yZm ha;have hcall:=xQ3 gl (renF l.reverse) (λnm u h=>by rw[(wJt h).1];omega) a x hx (by omega) (.func 134) [] [.raw (.pointer (some ⟨b,0,none⟩))] rfl (λi hi=>by cases hi;simp only[go_sem]) (st.put b (some (.box [.sl tl (arI l)])))
   (λnm s hs=>ICallV.of_ICall (by simp only[go_sem]) (wQj gl nm b l tl htl.es (by omega) s (hs b _ (ISt.put_same _ _ _)))) st1 hfr.sub
  have hlen2:ys.length=k:=by rw[hys.len,yZ5,List.length_take];omega
  have hnext:∀r,IsTmD (yJq (renF l.reverse) a) r->IsTmsD (yZg (renF l.reverse) (us.take (k+1))) (ys++[r]):=λr hr=>by
   rw[yQ5 ha,yX3];exact hys.append (IsTmsD.one hr)
  obtain⟨v2,n2,l2⟩:=a;obtain⟨tx,cx,rfl,htx,hcx⟩:=hx.mk;simp only[go_sem,zE,zB,zA,zL,f5,f7,f21,f22,f23,lt_i hlt,yQ1 ht1,iNn,hkx,fits];refine hcall.mono ?_;rintro r _ ⟨hr,rfl⟩;have hn:=hnext r hr;clear hnext hcall;generalize yJq (renF l.reverse) (.mk v2 n2 l2)=w at hr;obtain⟨v3,n3,m3⟩:=w;obtain⟨t3,x3,rfl,_⟩:=hr.mk;rcases hfr with⟨rfl,hc,rfl⟩|⟨hk,g0,rfl,hg0,rfl⟩
  ·obtain⟨tf,tc,te⟩:=tg';simp only at hc;subst hc;obtain rfl:ys=[]:=List.eq_nil_of_length_eq_zero hlen2;simp only[go_sem,zE,zA,zM,zL,f1,f3,f5,f6,f7,f21,f22,f23,fits];refine yQv rfl λg'=>yQc λhg=>⟨⟨_,_,rfl,hn,.inr ⟨Nat.one_pos,g',rfl,hg,rfl⟩⟩,?_⟩
   rfl
  ·simp only[go_sem,zE,zA,zM,zL,f1,f3,f5,f6,f7,f21,f22,f23,fits,ISt.put_same,hlen2];refine yQv rfl (yQv ⟨by omega,by omega⟩ λg'=>yQc λhg=>⟨⟨_,_,rfl,hn,.inr ⟨Nat.succ_pos _,g',rfl,zYo hg0 hg,?_⟩⟩,?_⟩)
   ·rw[yQd,yXx hg0]
   ·rw[yQ9 hlt (show us.length<=281474976710656 by omega)]
 rintro fr st1 _ ⟨⟨ta,xa,f7,hxa,hfr⟩,f1,f3,f5,f6,f21,f22,f23,rfl⟩;rw[lTl] at hxa;have hsub1:=hfr.sub;have hta:=hfr.es;have hat:=hfr.ap.to (show xa.length=us.length by rw[hxa.len,yZ5]);have hb1:st1 b=some (.box [.sl tl (arI l)]):=hsub1 b _ (ISt.put_same _ _ _);have hm1:st1 m=some (.map .str es):=hsub1 m _ (by rw[yZe (yVc hm hb)];exact hm);clear hfr;simp only[go_sem,zE,zA,zL,f3,f22,f23,yQj (nLi _)];refine (yJc gl op n _ _ _ _ _).mono ?_;rintro _ st1 ⟨rfl,rfl⟩;cases hq:isQ op
 ·simp only[go_sem,zE,f3,hx2.len];intros;refine LoopC.ctr sub.length (λk fr st' ds=>(∃tg' ys,fr 7=.box [.raw (.int .u8 op),.raw (.string n),.sl ta xa,.sl tg' ys]/\IsFmsD (yVr fv (l).reverse (sub.take k)) ys/\frontF (st1) k tg' st') /\
   fr 1=.iv (.raw (.map (some m)))/\fr 5=.iv (.raw (.pointer (some ⟨b,0,none⟩)))/\fr 6=.box [.raw (.int .u8 0),.raw (.string ⟨#[]⟩),.sl ⟨true,.nil,0⟩ [],.sl ⟨true,.nil,0⟩ []] /\
   fr 68=.iv (.sl t2 x2)/\fr 69=.iv (.raw (.int .i64 sub.length))/\fr 70=.iv (.raw (.int .i64 k))/\ds=[]) ?_ ?_ ?_
  ·simp only[go_sem,zE,f1,f5,f6,f7];exact⟨⟨_,_,rfl,IsFmsD.nil,.inl ⟨rfl,rfl,rfl⟩⟩,rfl⟩
  ·rintro k fr st2 _ hlt ⟨⟨tg',ys,f7,hys,hfr⟩,f1,f5,f6,f68,f69,f70,rfl⟩;obtain⟨a,ha⟩:=yQ3 hlt;obtain⟨x,hkx,hx⟩:=hx2.get ha;obtain⟨h1,h2⟩:=yQu ha;have hb3:st2 b=some (.box [.sl (tl) (arI (l))]):=hfr.sub b _ (by exact hb1);have hm3:st2 m=some (.map .str es):=hfr.sub m _ (by exact hm1);have hcall:=IH a (lMg ha) x hx fv m es (l) (tl) (by exact htl) (by omega) (yZu hok2 (lMg ha)) st2 hm3 hes;have hlen2:ys.length=k:=by rw[hys.len,yXy,List.length_take];omega
   have hnext:∀r,IsFmD (xXp fv (l).reverse a) r->IsFmsD (yVr fv (l).reverse (sub.take (k+1))) (ys++[r]):=λr hr=>by
    rw[yQ5 ha,yVb];exact hys.append (IsFmsD.one hr)
   obtain⟨o2,n2,u2,s2⟩:=a;obtain⟨t3,x3,t4,x4,rfl,_⟩:=hx.mk;simp only[go_sem,zE,zB,zA,zL,f1,f5,f7,f68,f69,f70,lt_i hlt,yQ1 ht2,iNn,hkx,fits,hb3];refine hcall.mono ?_;rintro r _ ⟨hr,rfl⟩;have hn:=hnext r hr;clear hnext hcall;obtain⟨t5,x5,t6,x6,rfl,_⟩:=hr.mk;rcases hfr with⟨rfl,hc,rfl⟩|⟨hk,g0,rfl,hg0,rfl⟩
   ·obtain⟨tf,tc,te⟩:=tg';simp only at hc;subst hc;obtain rfl:ys=[]:=List.eq_nil_of_length_eq_zero hlen2;simp only[go_sem,zE,zA,zM,zL,f1,f5,f6,f7,f68,f69,f70,fits];refine yQv rfl λg'=>yQc λhg=>⟨⟨_,_,rfl,hn,.inr ⟨Nat.one_pos,g',rfl,hg,rfl⟩⟩,?_⟩
    rfl
   ·simp only[go_sem,zE,zA,zM,zL,f1,f5,f6,f7,f68,f69,f70,fits,ISt.put_same,hlen2];refine yQv rfl (yQv ⟨by omega,by omega⟩ λg'=>yQc λhg=>⟨⟨_,_,rfl,hn,.inr ⟨Nat.succ_pos _,g',rfl,zYo hg0 hg,?_⟩⟩,?_⟩)
    ·rw[yQd,yXx hg0]
    ·rw[yQ9 hlt (show sub.length<=281474976710656 by omega)]
  rintro fr st2 _ ⟨⟨tb,xb,f7,hxb,hfr⟩,f1,f5,f6,f68,f69,f70,rfl⟩;rw[lTl] at hxb;have hsub2:=hfr.sub;have htb:=hfr.es;have hbt:=hfr.ap.to (show xb.length=sub.length by rw[hxb.len,yXy]);simp only[go_sem,zE,zA,zL,f6,f7,f69,f70,yQj (nLi _)];refine yQa (st':=st) ((yQe hb).trans (hsub1.trans hsub2)) ⟨?_,rfl⟩;exact IsFmD.of ⟨ta,xa,tb,xb,by simp[hq],hop,hta,hxa.1,htb,by simpa[hq] using hxb.1⟩ hat hxa.2 hbt hxb.2
 ·simp only[go_sem,zE,f5];refine λm2=>yQc λhm2=>?_;have hbm:b≠m2:=yVc hb1 hm2;have hmm:m≠m2:=yVc hm1 hm2;have hmb:m≠b:=yVc hm hb;have eb:∀e,(st1.put m2 (some (.map .str e))) b=some (.box [.sl tl (arI l)]):=λe=>by rw[yZe hbm];exact hb1
  simp only[go_sem,eb [],yJz];intros;refine LoopC.ctr l.length (λk fr st' ds=>(∃es2,SetOk es2 ((l.take k).map (·.2))/\st'=st1.put m2 (some (.map .str es2)))/\fr 1=.iv (.raw (.map (some m)))/\fr 3=.box [.raw (.int .u8 op),.raw (.string n),.sl t1 x1,.sl t2 x2]/\fr 5=.iv (.raw (.pointer (some ⟨b,0,none⟩))) /\
   fr 6=.box [.raw (.int .u8 0),.raw (.string ⟨#[]⟩),.sl ⟨true,.nil,0⟩ [],.sl ⟨true,.nil,0⟩ []]/\fr 7=.box [.raw (.int .u8 op),.raw (.string n),.sl ta xa,.sl ⟨true,.nil,0⟩ []]/\fr 10=.iv (.raw (.map (some m2))) /\
   fr 39=.iv (.sl tl (arI l))/\fr 40=.iv (.raw (.int .i64 l.length))/\fr 41=.iv (.raw (.int .i64 k))/\ds=[]) ?_ ?_ ?_
  ·simp only[go_sem,zE,f1,f3,f5,f6,f7];exact⟨⟨[],SetOk.nil,rfl⟩,rfl⟩
  ·rintro k fr _ _ hlt ⟨⟨es2,hs2,rfl⟩,f1,f3,f5,f6,f7,f10,f39,f40,f41,rfl⟩;obtain⟨p,hp⟩:=yQ3 hlt;simp only[go_sem,zE,zB,zA,zL,f1,f3,f5,f6,f7,f10,f39,f40,f41,lt_i hlt,yQ1 htl.es,iNn,yUp hp,fits,ISt.put_same,yQ9 hlt (show l.length<=281474976710656 by omega),yQd];refine⟨_,?_,rfl⟩;rw[yQ5 hp,List.map_append];exact hs2.upd p.2
  ·rintro fr _ _ ⟨⟨es2,hs2,rfl⟩,f1,f3,f5,f6,f7,f10,f39,f40,f41,rfl⟩;rw[lTl] at hs2;have hlst:=λtg htg=>wZ4 gl G [(m,fv),(m2,l.map (·.2))] tg htg (by simp[allM];omega) (st1.put m2 (some (.map .str es2))) (λp hp=>by
    simp only[List.mem_cons,List.not_mem_nil,or_false] at hp;rcases hp with rfl|rfl
    ·exact⟨es,by rw[yZe hmm];exact hm1,hes⟩
    ·exact⟨es2,ISt.put_same _ _ _,hs2⟩)
   have hal:yJn (allM [(m,fv),(m2,l.map (·.2))])=yJn (fv++l.reverse.map (·.2)):=zZv λx=>by
    simp[allM]
   rw[hal] at hlst;generalize hnew:yJn (fv++l.reverse.map (·.2))=new at hlst;simp only[go_sem,zE,zA,zM,zL,f1,f10,f40,f41,yQj (nLi _),fits,xJ3];refine (hlst _ (by simp only[go_sem])).mono ?_;rintro _ _ ⟨rfl,rfl⟩;rcases htl with⟨rfl,rfl⟩|⟨g0,rfl⟩
   ·simp only[go_sem,zE,zA,zM,zL,f3,f5,f7,fits,eb es2,yXb,yJz,yGc,yQ2,hx2.len]
    first
     | refine λg=>yQc λhg=>?_
     | refine yQv ⟨by omega,by omega⟩ λg=>yQc λhg=>?_
    have hm2n:st m2=none:=yY4 ((yQe hb).trans hsub1) hm2;have hbg:b≠g:=by
     rintro rfl;rw[yZe hbm] at hg;rw[hg] at hb1;cases hb1
    have hmg:m≠g:=by
     rintro rfl;rw[yZe hmm] at hg;rw[hg] at hm1;cases hm1
    have ebg:((st1.put m2 (some (.map .str es2))).put g (some (.front 1 2))) b=some (.box [.sl _ (arI [])]):=(yZe hbg).trans (eb es2);have eap:arI []++[.agg [.raw (.string n),.raw (.string new)]]=arI ([(n,new)]):=by first|rfl|(rw[yGp];rfl)
    have hren:([(n,new)]).reverse=(n,new)::([]:Ar).reverse:=by simp
    try simp only[List.nil_append] at eap
    simp only[go_sem,zL,ebg];intros;refine LoopC.ctr sub.length (λk fr st' ds=>(∃tg' ys,fr 7=.box [.raw (.int .u8 op),.raw (.string new),.sl ta xa,.sl tg' ys]/\IsFmsD (yVr fv ([(n,new)]).reverse (sub.take k)) ys/\frontF ((((st1.put m2 (some (.map .str es2))).put g (some (.front 1 2))).put b (some (.box [.sl ⟨true,.app g,2⟩ (arI ([(n,new)]))])))) k tg' st') /\
     fr 1=.iv (.raw (.map (some m)))/\fr 5=.iv (.raw (.pointer (some ⟨b,0,none⟩)))/\fr 6=.box [.raw (.int .u8 0),.raw (.string ⟨#[]⟩),.sl ⟨true,.nil,0⟩ [],.sl ⟨true,.nil,0⟩ []] /\
     fr 68=.iv (.sl t2 x2)/\fr 69=.iv (.raw (.int .i64 sub.length))/\fr 70=.iv (.raw (.int .i64 k))/\ds=[]) ?_ ?_ ?_
    ·simp only[go_sem,zE,f1,f5,f6];exact⟨⟨_,_,rfl,IsFmsD.nil,.inl ⟨rfl,rfl,rfl⟩⟩,rfl⟩
    ·rintro k fr st2 _ hlt ⟨⟨tg',ys,f7,hys,hfr⟩,f1,f5,f6,f68,f69,f70,rfl⟩;obtain⟨a,ha⟩:=yQ3 hlt;obtain⟨x,hkx,hx⟩:=hx2.get ha;obtain⟨h1,h2⟩:=yQu ha;have hb3:st2 b=some (.box [.sl (⟨true,.app g,2⟩) (arI ([(n,new)]))]):=hfr.sub b _ (by exact ISt.put_same _ _ _);have hm3:st2 m=some (.map .str es):=hfr.sub m _ (by rw[yZe hmb,yZe hmg,yZe hmm];exact hm1);have hcall:=IH a (lMg ha) x hx fv m es ([(n,new)]) (⟨true,.app g,2⟩) (by exact .inr ⟨g,rfl⟩) (by simp;omega) (yZu hok2 (lMg ha)) st2 hm3 hes;have hlen2:ys.length=k:=by rw[hys.len,yXy,List.length_take];omega
     have hnext:∀r,IsFmD (xXp fv ([(n,new)]).reverse a) r->IsFmsD (yVr fv ([(n,new)]).reverse (sub.take (k+1))) (ys++[r]):=λr hr=>by
      rw[yQ5 ha,yVb];exact hys.append (IsFmsD.one hr)
     obtain⟨o2,n2,u2,s2⟩:=a;obtain⟨t3,x3,t4,x4,rfl,_⟩:=hx.mk;simp only[go_sem,zE,zB,zA,zL,f1,f5,f7,f68,f69,f70,lt_i hlt,yQ1 ht2,iNn,hkx,fits,hb3];refine hcall.mono ?_;rintro r _ ⟨hr,rfl⟩;have hn:=hnext r hr;clear hnext hcall;obtain⟨t5,x5,t6,x6,rfl,_⟩:=hr.mk;rcases hfr with⟨rfl,hc,rfl⟩|⟨hk,g0,rfl,hg0,rfl⟩
     ·obtain⟨tf,tc,te⟩:=tg';simp only at hc;subst hc;obtain rfl:ys=[]:=List.eq_nil_of_length_eq_zero hlen2;simp only[go_sem,zE,zA,zM,zL,f1,f5,f6,f7,f68,f69,f70,fits];refine yQv rfl λg'=>yQc λhg=>⟨⟨_,_,rfl,hn,.inr ⟨Nat.one_pos,g',rfl,hg,rfl⟩⟩,?_⟩
      rfl
     ·simp only[go_sem,zE,zA,zM,zL,f1,f5,f6,f7,f68,f69,f70,fits,ISt.put_same,hlen2];refine yQv rfl (yQv ⟨by omega,by omega⟩ λg'=>yQc λhg=>⟨⟨_,_,rfl,hn,.inr ⟨Nat.succ_pos _,g',rfl,zYo hg0 hg,?_⟩⟩,?_⟩)
      ·rw[yQd,yXx hg0]
      ·rw[yQ9 hlt (show sub.length<=281474976710656 by omega)]
    rintro fr st2 _ ⟨⟨tb,xb,f7,hxb,hfr⟩,f1,f5,f6,f68,f69,f70,rfl⟩;rw[lTl] at hxb;have hsub2:=hfr.sub;have htb:=hfr.es;have hbt:=hfr.ap.to (show xb.length=sub.length by rw[hxb.len,yXy]);simp only[go_sem,zE,zA,zL,f6,f7,f69,f70,yQj (nLi _)];have hgn:st g=none:=by
     refine yY4 ((yQe hb).trans (hsub1.trans (yQe hm2))) (?_:(st1.put m2 (some (.map .str es2))) g=none);exact hg
    refine yQa (st':=st) ((yJx (yJx (yJx ((yQe hb).trans hsub1) hm2n) hgn) hb).trans hsub2) ⟨?_,rfl⟩;refine IsFmD.of ⟨ta,xa,tb,xb,?_,hop,hta,hxa.1,htb,?_⟩ hat hxa.2 hbt hxb.2
    ·simp only[hq,if_true,hnew]
    ·simp only[hq,if_true,hnew];rw[hren] at hxb;exact hxb.1
   ·simp only[go_sem,zE,zA,zM,zL,reduceCtorEq,f3,f5,f7,fits,eb es2,yXb,yJz,yGc,yQ2,xW8,hx2.len]
    first
     | refine λg=>yQc λhg=>?_
     | refine yQv ⟨by omega,by omega⟩ λg=>yQc λhg=>?_
    have hm2n:st m2=none:=yY4 ((yQe hb).trans hsub1) hm2;have hbg:b≠g:=by
     rintro rfl;rw[yZe hbm] at hg;rw[hg] at hb1;cases hb1
    have hmg:m≠g:=by
     rintro rfl;rw[yZe hmm] at hg;rw[hg] at hm1;cases hm1
    have ebg:((st1.put m2 (some (.map .str es2))).put g (some (.front (l.length+1) 2))) b=some (.box [.sl _ (arI l)]):=(yZe hbg).trans (eb es2);have eap:arI l++[.agg [.raw (.string n),.raw (.string new)]]=arI (l++[(n,new)]):=by first|rfl|(rw[yGp];rfl)
    have hren:(l++[(n,new)]).reverse=(n,new)::(l:Ar).reverse:=by simp
    try simp only[List.nil_append] at eap
    simp only[go_sem,zL,ebg,eap];intros;refine LoopC.ctr sub.length (λk fr st' ds=>(∃tg' ys,fr 7=.box [.raw (.int .u8 op),.raw (.string new),.sl ta xa,.sl tg' ys]/\IsFmsD (yVr fv (l++[(n,new)]).reverse (sub.take k)) ys/\frontF ((((st1.put m2 (some (.map .str es2))).put g (some (.front (l.length+1) 2))).put b (some (.box [.sl ⟨true,.app g,2⟩ (arI (l++[(n,new)]))])))) k tg' st') /\
     fr 1=.iv (.raw (.map (some m)))/\fr 5=.iv (.raw (.pointer (some ⟨b,0,none⟩)))/\fr 6=.box [.raw (.int .u8 0),.raw (.string ⟨#[]⟩),.sl ⟨true,.nil,0⟩ [],.sl ⟨true,.nil,0⟩ []] /\
     fr 68=.iv (.sl t2 x2)/\fr 69=.iv (.raw (.int .i64 sub.length))/\fr 70=.iv (.raw (.int .i64 k))/\ds=[]) ?_ ?_ ?_
    ·simp only[go_sem,zE,f1,f5,f6];exact⟨⟨_,_,rfl,IsFmsD.nil,.inl ⟨rfl,rfl,rfl⟩⟩,rfl⟩
    ·rintro k fr st2 _ hlt ⟨⟨tg',ys,f7,hys,hfr⟩,f1,f5,f6,f68,f69,f70,rfl⟩;obtain⟨a,ha⟩:=yQ3 hlt;obtain⟨x,hkx,hx⟩:=hx2.get ha;obtain⟨h1,h2⟩:=yQu ha;have hb3:st2 b=some (.box [.sl (⟨true,.app g,2⟩) (arI (l++[(n,new)]))]):=hfr.sub b _ (by exact ISt.put_same _ _ _);have hm3:st2 m=some (.map .str es):=hfr.sub m _ (by rw[yZe hmb,yZe hmg,yZe hmm];exact hm1);have hcall:=IH a (lMg ha) x hx fv m es (l++[(n,new)]) (⟨true,.app g,2⟩) (by exact .inr ⟨g,rfl⟩) (by simp;omega) (yZu hok2 (lMg ha)) st2 hm3 hes;have hlen2:ys.length=k:=by rw[hys.len,yXy,List.length_take];omega
     have hnext:∀r,IsFmD (xXp fv (l++[(n,new)]).reverse a) r->IsFmsD (yVr fv (l++[(n,new)]).reverse (sub.take (k+1))) (ys++[r]):=λr hr=>by
      rw[yQ5 ha,yVb];exact hys.append (IsFmsD.one hr)
     obtain⟨o2,n2,u2,s2⟩:=a;obtain⟨t3,x3,t4,x4,rfl,_⟩:=hx.mk;simp only[go_sem,zE,zB,zA,zL,f1,f5,f7,f68,f69,f70,lt_i hlt,yQ1 ht2,iNn,hkx,fits,hb3];refine hcall.mono ?_;rintro r _ ⟨hr,rfl⟩;have hn:=hnext r hr;clear hnext hcall;obtain⟨t5,x5,t6,x6,rfl,_⟩:=hr.mk;rcases hfr with⟨rfl,hc,rfl⟩|⟨hk,g0,rfl,hg0,rfl⟩
     ·obtain⟨tf,tc,te⟩:=tg';simp only at hc;subst hc;obtain rfl:ys=[]:=List.eq_nil_of_length_eq_zero hlen2;simp only[go_sem,zE,zA,zM,zL,f1,f5,f6,f7,f68,f69,f70,fits];refine yQv rfl λg'=>yQc λhg=>⟨⟨_,_,rfl,hn,.inr ⟨Nat.one_pos,g',rfl,hg,rfl⟩⟩,?_⟩
      rfl
     ·simp only[go_sem,zE,zA,zM,zL,f1,f5,f6,f7,f68,f69,f70,fits,ISt.put_same,hlen2];refine yQv rfl (yQv ⟨by omega,by omega⟩ λg'=>yQc λhg=>⟨⟨_,_,rfl,hn,.inr ⟨Nat.succ_pos _,g',rfl,zYo hg0 hg,?_⟩⟩,?_⟩)
      ·rw[yQd,yXx hg0]
      ·rw[yQ9 hlt (show sub.length<=281474976710656 by omega)]
    rintro fr st2 _ ⟨⟨tb,xb,f7,hxb,hfr⟩,f1,f5,f6,f68,f69,f70,rfl⟩;rw[lTl] at hxb;have hsub2:=hfr.sub;have htb:=hfr.es;have hbt:=hfr.ap.to (show xb.length=sub.length by rw[hxb.len,yXy]);simp only[go_sem,zE,zA,zL,f6,f7,f69,f70,yQj (nLi _)];have hgn:st g=none:=by
     refine yY4 ((yQe hb).trans (hsub1.trans (yQe hm2))) (?_:(st1.put m2 (some (.map .str es2))) g=none);exact hg
    refine yQa (st':=st) ((yJx (yJx (yJx ((yQe hb).trans hsub1) hm2n) hgn) hb).trans hsub2) ⟨?_,rfl⟩;refine IsFmD.of ⟨ta,xa,tb,xb,?_,hop,hta,hxa.1,htb,?_⟩ hat hxa.2 hbt hxb.2
    ·simp only[hq,if_true,hnew]
    ·simp only[hq,if_true,hnew];rw[hren] at hxb;exact hxb.1
