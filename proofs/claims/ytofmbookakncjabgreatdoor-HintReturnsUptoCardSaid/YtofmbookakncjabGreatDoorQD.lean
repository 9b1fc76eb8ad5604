/- Walks: binary search among formulas, and -/
import Derived.Test.YtofmbookakncjabGreatDoorQC
set_option linter.all false
open Nat renaming reduceEqDiff → zE,reduceBEq → zB,reduceAdd → zA,reduceMul → zM,reduceLeDiff → zL
namespace Go.Proofs.Tryz
open Go Go.Iv
set_option maxRecDepth 4000
variable (gl:Nat->Option IV)
def Hq (n:Nat):Int.fdiv (n:Int) (2 ^ min (Int.toNat 1) 64)=((n / 2:Nat):Int):=by
 rw[show (2:Int) ^ min (Int.toNat 1) 64=((2:Nat):Int) from rfl];exact (Int.ofNat_fdiv n 2).symm
def Hr {a b n:Nat}(h:a<=b)(A:b<=n)(hl:n<=1099511627776):IntKind.u64.wrap (IntKind.i64.wrap ((a:Int)+(b:Int)))=((a+b:Nat):Int)/\IntKind.i64.wrap (((a+b) / 2:Nat):Int)=(((a+b) / 2:Nat):Int):=by
 have h1:IntKind.i64.wrap ((a:Int)+(b:Int))=((a+b:Nat):Int):=by rw[w64 (by omega) (by omega)];omega
 rw[h1];exact⟨IntWalk.u64_in _ (by omega),w64 (by omega) (by omega)⟩
def Pq (W:List Fm)(tg:Tag)(xs:List IV)(af:okEs tg 4)(hx:IsFms W xs)(hW:Srt W)(ag:W.length<=1099511627776)(f:Fm)(y:IV)(hy:IsFm f y)(st:ISt) :
  ICall prog gl 115 [.sl tg xs,y,.fn (.func 106) [] []] st
   (λr st'=>(∃(i:Nat) (b:Bool),r=.tup [(i:Int),.raw (.bool b)]/\(b=true↔f∈W)/\(b=true->W[i]?=some f))/\st'=st):=by
 have O:=λa x hx st=>wM gl a f x y hx hy st;obtain⟨y1,y2,y3,y4,y5,y6,rfl⟩:=hy.agg;have ak:=hx.len;have c1:=λn:Int=>nc prog 3 192 np vS .i64 n;have c2:=λn:Int=>nc prog 192 3 vS np .u64 n;refine iI func115 ?_;simp only[go_sem,zE,reduceCtorEq,ak];intro _;refine LoopC.dec W.length (λm fr st' ds=>(∃lo A,m=A-lo/\lo<=A/\A<=W.length/\(∀k a,k<lo->W[k]?=some a->fO a f<0)/\(∀k a,A<=k->W[k]?=some a->¬ fO a f<0)/\fr 9=(lo:Int)/\fr 10=(A:Int))/\fr 0=.iv (.sl tg xs)/\fr 2=.iv (.fn (.func 106) [] []) /\
  fr 4=.box [.raw (.int .u8 y1),y2,.sl y3 y4,.sl y5 y6]/\fr 8=W.length/\st'=st/\ds=[]) ?_ ?_
 ·simp only[go_sem,zE,reduceCtorEq];refine⟨0,W.length,by omega,by omega,by omega,λk a J=>absurd J (by omega),λk a J D=>?_,rfl,rfl⟩;have:=(lGs D).1;omega
 ·rintro m fr aI _ ⟨⟨lo,A,hm,ao,ah,h1,h2,f9,f10⟩,f0,f2,f4,f8,rfl,rfl⟩;by_cases an:lo<A
  ·obtain⟨am,al⟩:=Hr ao ah ag;obtain⟨a,D⟩:=ed (l:=W) (k:=(lo+A) / 2) (by omega);obtain⟨x,ab,E⟩:=hx.get D;obtain⟨x1,x2,x3,x4,x5,x6,rfl⟩:=E.agg;simp only[go_sem,zE,zB,zA,zL,reduceCtorEq,f0,f2,f4,f9,f10,lt_i an,c1,c2,show ((0:Int)<=1)=True from fU (by omega),Hq,am,al,ec af,iNn,ab,fits];refine (O a _ E _).q ?_;by_cases hc:fO a f<0
   ·simp only[go_sem,zE,reduceCtorEq,f0,f2,f4,f8,f10,dEt hc,ek (show (lo+A) / 2<W.length by omega) (by omega)];refine⟨A-((lo+A) / 2+1),by omega,(lo+A) / 2+1,A,rfl,by omega,ah,λk b J U=>?_,h2,rfl,rfl⟩;rcases gO k ((lo+A) / 2) with h|h
    ·exact qj _ _ _ (rV hW U D h) hc
    ·obtain rfl:k=(lo+A) / 2:=by omega
     rw[D] at U;cases U;exact hc
   ·simp only[go_sem,zE,reduceCtorEq,f0,f2,f4,f8,f9,dEf hc];refine⟨(lo+A) / 2-lo,by omega,lo,(lo+A) / 2,rfl,by omega,by omega,h1,λk b J U=>?_,rfl,rfl⟩;rcases gO ((lo+A) / 2) k with h|h
    ·exact λaq=>hc (qj _ _ _ (rV hW D U h) aq)
    ·obtain rfl:k=(lo+A) / 2:=by omega
     rw[D] at U;cases U;exact hc
  ·obtain rfl:lo=A:=by omega
   have ac:∀k,W[k]?=some f->k=lo:=λk J=>by
    rcases Nat.lt_trichotomy k lo with h|h|h
    ·exact absurd (h1 k f h J) (rP f)
    ·exact h
    ·obtain⟨b,U⟩:=ed (l:=W) (k:=lo) (by have:=(lGs J).1;omega);exact absurd (rV hW U J h) (h2 lo b (eu _) U)
   have G:f∈W↔W[lo]?=some f:=⟨λh=>by
    obtain⟨k,J⟩:=mq.1 h
    rwa [ac k J] at J,lMg⟩
   by_cases aa:lo<W.length
   ·obtain⟨a,D⟩:=ed aa;obtain⟨x,ab,E⟩:=hx.get D;obtain⟨x1,x2,x3,x4,x5,x6,rfl⟩:=E.agg;simp only[go_sem,zE,zB,zA,zL,reduceCtorEq,f0,f2,f4,f8,f9,f10,eI (nLi _),lt_i aa,ec af,iNn,ab,fits];refine (O a _ E _).q ?_;by_cases hc:fO a f=0
    ·simp only[go_sem,zE,dEt hc];refine dw ⟨⟨lo,true,rfl,⟨λ_=>?_,λ_=>rfl⟩,λ_=>?_⟩,rfl⟩
     ·rw[G,D,(mc a f).1 hc]
     ·rw[D,(mc a f).1 hc]
    ·simp only[go_sem,zE,dEf hc];refine dw ⟨⟨lo,false,rfl,⟨nofun,λh=>?_⟩,nofun⟩,rfl⟩;rw[G,D] at h;cases h;exact absurd ((mc _ _).2 rfl) hc
   ·simp only[go_sem,zE,f8,f9,f10,eI (nLi _),eI aa];refine dw ⟨⟨lo,false,rfl,⟨nofun,λh=>?_⟩,nofun⟩,rfl⟩;rw[G] at h;exact absurd (lGs h).1 aa
def Hs (l:List Nat):(eJ l).flatMap IV.cells=eJ l:=by
 induction l with
 | nil=>rfl
 | cons a l A =>
  show IV.cells _++(eJ l).flatMap IV.cells=_;rw[A];rfl
def BE (l:List Nat):∀y∈eJ l,fits false 1 y=true:=λy A=>by
 obtain⟨n,_,rfl⟩:=eh.1 A;simp[fits,IV.one]
def wW (l:List Nat)(st:ISt)(r:IV)(st':ISt):Prop:=(∃t,r=.sl t (eJ l)/\okEs t 1)/\st'=st
def Ht {f:FuncId}{args:List IV}{l:List Nat}{st:ISt}(hl:l.length<=140737488355328)
  (h:ICall prog gl f args st (λr st'=>wW l st r st'\/∃g cap cs,st g=none/\r=.raw (.slice (some ⟨g,0,none⟩) l.length cap)/\st'=st.put g (some (.box cs))/\l.length<=cap/\cap<=cs.length/\cs.take l.length=eJ l)):ICall prog gl f args st (wW l st):=by
 refine uL (h.mono λr st' A=>?_);rcases A with A|⟨g,cap,cs,h1,rfl,rfl,h2,G,E⟩
 ·exact .inl A
 ·exact .inr ⟨g,l.length,cap,cs,1,eJ l,h1,rfl,rfl,gN l,hl,h2,by omega,by rw[iu,E,Hs],λz D=>Hp (BE l z D),⟨_,rfl,.inr rfl⟩,rfl⟩
def Hu (T:Gt gl)(a b:List Nat)(ta J:Tag)(hta:okEs ta 1)(ak:okEs J 1)(hl:a.length+b.length<=1000000)(st:ISt) :
  ICall prog gl 153 [.sl ta (eJ a),.sl J (eJ b)] st (wW (sdN (a++b)) st):=by
 have aa:=uO (a++b);rw[lLa] at aa;have E:catL [(ta,eJ a),(J,eJ b)]=eJ (a++b):=by simp[catL,BD]
 have A:(catL [(ta,eJ a),(J,eJ b)]).length=(a++b).length:=by rw[E,gN]
 refine Ht gl (by omega) ?_;refine iI func153 ?_;simp only[go_sem,zE,zA,zM,zL,reduceCtorEq,fits];refine gp rfl ?_;refine (Pp gl [(ta,eJ a),(J,eJ b)] _ (.inr rfl) (λp hp y hy=>?_) (by rw[A,lLa];omega) _).mono ?_
 ·rcases eK.1 hp with rfl|hp
  ·exact BE a y hy
  ·obtain rfl:=eY.1 hp;exact BE b y hy
 ·rintro _ _ (⟨t,rfl,ht,hn,rfl⟩|⟨g,cap,cs,hg,h1,h2,h3,rfl,rfl⟩)
  ·have af:a++b=[]:=fw (by rw[<- A,hn];rfl);rw[af];simp only[go_sem,zA];refine (Hm gl t ht _).q ?_;simp only[go_sem,zE,zA];refine (Ho gl t ht _).mono ?_;rintro _ _ ⟨⟨t',rfl,U⟩,rfl⟩;simp only[go_sem];exact dw (.inl ⟨⟨t',rfl,.inl U⟩,rfl⟩)
  ·rw[A] at h1 h3;rw[E,Hs] at h3;rw[A];have ae:cs=eJ (a++b)++cs.drop (a++b).length:=by rw[<- h3,fh]
   have G:=Hl gl T (a++b) (cs.drop (a++b).length) g cap (st.put g (some (.box cs))) (by rw[lLa];omega) (by rw[b_,<- ae]);simp only[go_sem,zA];refine G.mono ?_;rintro _ _ ⟨rfl,m,hp,hs,rfl⟩;have hml:=hp.length_eq;have D:=Hn gl m (cs.drop (a++b).length) (by rw[hml,lLa];omega) g cap (by rw[hml];exact h1) ((st.put g (some (.box cs))).put g (some (.box (eJ m++cs.drop (a++b).length)))) (b_ ..);rw[hml] at D;simp only[go_sem,zE,zA];refine D.mono ?_;rintro _ _ ⟨ah,rfl,rfl,ab,O,ac⟩;rw[He hp hs] at O ac ⊢;rw[fW,fW];simp only[go_sem];refine dw (.inr ⟨g,cap,ah,hg,rfl,rfl,by omega,?_,O⟩);rw[ab,lLa,gN,jm,hml];omega
def OwnI (st:ISt)(l:List Nat)(x:IV)(st':ISt):Prop:=(l=[]/\x=()/\st'=st) \/
 ∃g cap cs,l≠[]/\st g=none/\l.length<=cap/\cap<=cs.length/\cs.take l.length=eJ l/\x=.raw (.slice (some ⟨g,0,none⟩) l.length cap)/\st'=st.put g (some (.box cs))
def Pr {st:ISt}{g A:Nat}{o o':Option IObj}(D:st g=none):((st.put g o).put g none).put A o'=st.put A o':=by
 funext c;simp only[ISt.put_apply];split
 ·rfl
 ·split
  ·subst_vars;exact D.symm
  ·rfl
def Ps {st:ISt}{g A:Nat}{o:Option IObj}(D:st g=none)(h:A=g\/(st.put g o) A=none):st A=none:=by
 rcases h with rfl|h
 ·exact D
 ·rw[ISt.put_apply] at h;split at h
  ·rename_i E;rw[E];exact D
  ·exact h
abbrev spI (ca:Nat)(tw:Tag)(xw:List IV)(m:Nat):IV:=.cptr (.agg [.raw (.int .u8 (ca:Int)),.sl tw xw,.raw (.map (some m))])
def Hv (T:Gt gl)(ca m:Nat)(W:List Fm)(tw:Tag)(xw:List IV)(aj:okEs tw 4)(ai:IsFms W xw)(hW:Srt W)(aO:W.length<=1000000)(l:List Fm)(tg:Tag)(xs:List IV)(ak:okEs tg 4)(hx:IsFms l xs)(hl:l.length<=1000000)(aq:∀f∈l,f∈W)(st:ISt) :
  ICall prog gl 93 [spI ca tw xw m,.sl tg xs] st (wW (mV W l) st):=by
 have aK:(mV W l).length<=l.length:=by
  have:=uO (l.map (noW W))
  rwa [eP] at this
 refine Ht gl (by omega) ?_;refine ICall.intro (c:=cf prog gl [29] []) func93 rfl (by show _<=35;simp) (by kernel_rfl) ?_;simp only[go_sem,zE,hx.len];intro _;refine dC l.length (λk fr st' ds=>(∃x,fr 5=.iv x/\OwnI st ((l.take k).map (noW W)) x st')/\fr 0=(spI ca tw xw m)/\fr 10=.iv (.sl tg xs)/\fr 11=l.length/\fr 12=(k:Int)/\ds=[]) ?_ ?_ ?_
 ·simp only[go_sem,zE,reduceCtorEq];exact⟨⟨_,rfl,.inl ⟨rfl,rfl,rfl⟩⟩,rfl⟩
 ·rintro k fr ah _ E ⟨⟨x,f5,D⟩,f0,f10,f11,f12,rfl⟩;obtain⟨a,ha⟩:=ed E;obtain⟨y,an,aa⟩:=hx.get ha;have ay:=aq a (lMg ha);have U:=λst=>Pq gl W tw xw aj ai hW (by omega) a y aa st;obtain⟨y1,y2,y3,y4,y5,y6,rfl⟩:=aa.agg;simp only[go_sem,zE,zB,zA,zL,reduceCtorEq,f0,f10,f11,f12,lt_i E,ec ak,iNn,an,fits];refine (U _).mono ?_;rintro _ aI ⟨⟨i,b,rfl,ax,aw⟩,rfl⟩;obtain rfl:b=true:=ax.2 ay;have hi:=Pg hW (aw rfl);have A:(l.take (k+1)).map (noW W)=(l.take k).map (noW W)++[i]:=by rw[en ha,fS,<- hi];rfl
  have aM:((l.take k).map (noW W)).length=k:=by rw[eP,eO];omega
  rcases D with⟨h0,rfl,rfl⟩|⟨g,cap,cs,h0,G,h1,h2,h3,rfl,rfl⟩
  ·simp only[go_sem,zE,zA,zM,zL,f5,fits,fg];intro g cap;refine fc λG=>?_;obtain⟨G,ac⟩:=G;simp only[go_sem,zE,reduceCtorEq,f0,f10,f11,f12,ek E (by omega)];refine⟨_,rfl,.inr ⟨g,cap,_,?_,G,?_,?_,?_,?_,rfl⟩⟩
   ·rw[A];simp
   ·rw[A,h0];exact ac
   ·rw[lLa,iP];show cap<=1+(cap-1)*1;omega
   ·rw[A,h0];rfl
   ·rw[A,h0];rfl
  ·simp only[go_sem,zE,zA,zM,zL,f5,fits,fg];refine lZ _ _ _ (b_ ..) (by simp[fits,IV.one]) ⟨by show (_+1)*8<=_;omega,by show _+1<=_;omega⟩ ⟨h1,by simpa using h2⟩ (by simp[IV.cells]) ?_;intro g' ae cs' au q1 q2 q3;simp only[iu] at q2 q3;rw[Pr G];simp only[go_sem,zE,reduceCtorEq,f0,f10,f11,f12,ek E (by omega)];refine⟨_,rfl,.inr ⟨g',ae,cs',?_,Ps G au,?_,q2,?_,?_,rfl⟩⟩
   ·rw[A];simp
   ·rw[A,lLa];exact q1
   ·rw[A,lLa,BD,<- h3];exact q3
   ·rw[A,lLa];rfl
 ·rintro fr ah _ ⟨⟨x,f5,D⟩,f0,f10,f11,f12,rfl⟩;rw[lTl] at D;rcases D with⟨h0,rfl,rfl⟩|⟨g,cap,cs,h0,G,h1,h2,h3,rfl,rfl⟩
  ·have hn:mV W l=[]:=by unfold mV;rw[h0];rfl
   rw[hn];simp only[go_sem,zE,zA,f5,f11,f12,eI (nLi _)];refine (Hm gl _ rfl _).q ?_;simp only[go_sem,zE,zA,f5];refine (Ho gl _ rfl _).mono ?_;rintro _ _ ⟨⟨t',rfl,al⟩,rfl⟩;simp only[go_sem];exact dw (.inl ⟨⟨t',rfl,.inl al⟩,rfl⟩)
  ·have aF:(l.map (noW W)).length=l.length:=eP ..;have av:cs=eJ (l.map (noW W))++cs.drop (l.map (noW W)).length:=by rw[<- h3,fh]
   have O:=Hl gl T (l.map (noW W)) (cs.drop (l.map (noW W)).length) g cap (st.put g (some (.box cs))) (by omega) (by rw[b_,<- av]);simp only[go_sem,zE,zA,f5,f11,f12,eI (nLi _)];refine O.mono ?_;rintro _ _ ⟨rfl,q,hp,hs,rfl⟩;have hml:=hp.length_eq;have J:=Hn gl q (cs.drop (l.map (noW W)).length) (by omega) g cap (by omega) ((st.put g (some (.box cs))).put g (some (.box (eJ q++cs.drop (l.map (noW W)).length)))) (b_ ..);rw[hml] at J;simp only[go_sem,zE,zA,f5];refine J.mono ?_;rintro _ _ ⟨aB,rfl,rfl,am,ab,ao⟩;rw[He hp hs] at ab ao ⊢;rw[fW,fW];simp only[go_sem];refine dw (.inr ⟨g,cap,aB,G,rfl,rfl,?_,?_,ab⟩)
   ·change (sdN (l.map (noW W))).length<=cap;omega
   ·rw[am,lLa,gN,jm,hml];omega
def IsLn (ln:Ln)(x:IV):Prop:=∃t1 t2,x=.agg [.sl t1 (eJ ln.1),.sl t2 (eJ ln.2)]/\okEs t1 1/\okEs t2 1
def wX (T:Gt gl)(ca m:Nat)(W:List Fm)(tw:Tag)(xw:List IV)(D:okEs tw 4)(A:IsFms W xw)(J:Srt W)(G:W.length<=1000000)(s:Sq)(x:IV)(hx:IsSq s x)(hl:s.l.length<=1000000/\s.r.length<=1000000)(E:InW W (s.l,s.r))(st:ISt) :
  ICall prog gl 67 [spI ca tw xw m,x] st (λr st'=>IsLn (mW W (s.l,s.r)) r/\st'=st):=by
 obtain⟨t1,U,t2,O,rfl,e1,i1,e2,i2⟩:=hx;have h1:=λst=>Hv gl T ca m W tw xw D A J G s.l t1 U e1 i1 hl.1 E.1 st;have h2:=λst=>Hv gl T ca m W tw xw D A J G s.r t2 O e2 i2 hl.2 E.2 st;refine ICall.intro (c:=cf prog gl [] [(1,[0,1,2,4,5,6,3,7,8,9])]) func67 rfl (by show _<=14;simp) (by kernel_rfl) ?_;simp only[go_sem,zE,zA,reduceCtorEq];refine (h1 _).mono ?_;rintro _ _ ⟨⟨t3,rfl,e3⟩,rfl⟩;simp only[go_sem,zE,zA];refine (h2 _).mono ?_;rintro _ _ ⟨⟨t4,rfl,e4⟩,rfl⟩;simp only[go_sem,zE,zA,zL,fits];exact dw ⟨⟨t3,t4,rfl,e3,e4⟩,rfl⟩
end Go.Proofs.Tryz
namespace Go.Proofs.Tryz
open Go Go.Iv
def Pt {ca:Nat}(hc:ca≠3)(f:Fm):f.ok=true->opsB ca f=true->PF f:=by
 refine wL (p:=λf=>f.ok=true->opsB ca f=true->PF f) (λo n us sub ih h1 h2=>?_) f;simp only[Fm.ok,bAt] at h1;obtain⟨⟨A,_⟩,U⟩:=h1;simp only[opsB,bAt,iN,dTe,a_ hc] at h2;obtain⟨⟨⟨af,ae⟩,E⟩,G⟩:=h2;have E:us=[]:=List.isEmpty_iff.1 (E.resolve_left hc);subst E;have D:∀a∈sub,PF a:=by
  have key:∀l:List Fm,(∀a∈l,a∈sub)->jR l=true->jD ca l=true->∀a∈l,PF a:=λl=>by
   induction l with
   | nil=>intro _ _ _ a J;cases J
   | cons b l O =>
    intro hm h1 h2 a J;simp only[jR,jD,bAt] at h1 h2;rcases eK.1 J with rfl|J
    ·exact ih a (hm a (.head _)) h1.1 h2.1
    ·exact O (λx hx=>hm x (.tail _ hx)) h1.2 h2.2 a J
  exact key sub (λ_ h=>h) U G
 have ho:o=1\/o=2\/o=3\/o=4\/o=5\/o=6\/o=7:=by omega
 rcases ho with rfl|rfl|rfl|rfl|rfl|rfl|rfl<;>simp only[iE,bAt,dTe] at A
 ·obtain rfl:sub=[]:=fw A.2;exact .atom n
 ·obtain rfl:sub=[]:=fw A.2;rw[A.1.1];exact .fls
 ·match sub,A.2 with
  | [a],_=>rw[A.1.1];exact .neg (D a (.head _))
 all_goals
  match sub,A.2 with
  | [a,b],_=>rw[A.1.1];exact .bin (by omega) (by omega) (D a (.head _)) (D b (.tail _ (.head _)))
def pC {ca:Nat}(hc:ca≠3){f:Fm}(h:fmB ca f=true):PF f:=by
 unfold fmB Fm.right at h;simp only[bAt] at h;exact Pt hc f h.1.1.1 h.2
def Hw {ca:Nat}{n:ByteArray}{us:List Tm}{a:Fm}(h:fmB ca (.mk 3 n us [a])=true):fmB ca a=true:=by
 unfold fmB Fm.right at *;simp only[bAt,dTe,Fm.ok,jR,opsB,jD,Fm.size,eS,Fm.deep,gZ] at *;obtain⟨⟨⟨⟨_,G,_⟩,D⟩,A⟩,_,E,_⟩:=h;have D:=gi D;have A:=gi A;exact⟨⟨⟨G,by omega⟩,by omega⟩,E⟩
def Hx {ca o:Nat}(ho:o≠3/\4<=o/\o<=7){n:ByteArray}{us:List Tm}{a b:Fm}(h:fmB ca (.mk o n us [a,b])=true):fmB ca a=true/\fmB ca b=true/\fmB ca (imF a b)=true/\fmB ca (imF b a)=true:=by
 have key:∀k,iE k noN 0 2=true↔k=4\/k=5\/k=6\/k=7\/k=14:=λk=>by
  unfold iE;split<;>simp_all
 unfold fmB Fm.right at *;simp only[bAt,dTe,Fm.ok,jR,opsB,jD,Fm.size,eS,Fm.deep,gZ,ka,fp,gA,fa,fb,eT,Nat.reduceAdd,List.isEmpty_nil,Bool.or_true] at *;have h6:iE 6 noN 0 2=true:=(key 6).2 (by omega);obtain⟨⟨⟨⟨⟨_,_⟩,J,G,_⟩,U⟩,O⟩,⟨⟨k5,k6⟩,k7⟩,E,D,_⟩:=h;have A:6<=(if ca=3 then 9 else 7):=by split<;>omega
 have U:=gi U;have O:=gi O;exact⟨⟨⟨⟨J,by omega⟩,by omega⟩,E⟩,⟨⟨⟨G,by omega⟩,by omega⟩,D⟩,⟨⟨⟨⟨⟨h6,trivial⟩,J,G,trivial⟩,by omega⟩,dEt (by omega)⟩,⟨⟨by omega,A⟩,trivial⟩,E,D,trivial⟩,⟨⟨⟨⟨⟨h6,trivial⟩,G,J,trivial⟩,by omega⟩,dEt (by omega)⟩,⟨⟨by omega,A⟩,trivial⟩,D,E,trivial⟩⟩
def ke (j:Bool)(op:Nat)(r:Bool):List Nat :=
 if op=3 then (if r=true then [4] else [3]) else if op=4 then (if r=true then [6] else [5])
 else if op=5 then (if r=true then (if j=true then [8,18] else [8]) else [7]) else if op=6 then (if r=true then [10] else [9])
 else if op=7 then (if r=true then [12] else [11]) else []
abbrev calJ (ca:Nat):Bool:=decide (ca=2)
abbrev tmZ:Tm:=.mk false noN []
def sqOf (p:Sn):Sq:=⟨p.1,p.2⟩
def wY {ca:Nat}{f:Fm}(A:PF f)(r:Bool):(addF (calJ ca) f r).map (·.1)=ke (calJ ca) f.op r:=by
 cases A with
 | atom n=>simp[addF,ke,Fm.op]
 | fls=>simp[addF,ke,Fm.op]
 | neg h=>cases r<;>simp[addF,ke,Fm.op]
 | @bin o a b E D _ _ =>
  obtain rfl|rfl|rfl|rfl:o=4\/o=5\/o=6\/o=7:=by omega
  all_goals cases r<;>simp[addF,ke,Fm.op]
  by_cases h:ca=2<;>simp[h]
def Hy {ca:Nat}(hc:ca=1\/ca=2){f:Fm}(h:fmB ca f=true){r:Bool}{t:Nat×List Sn}(ht:t∈addF (calJ ca) f r):px ca t.1 f tmZ noN=(t.2.map sqOf,0):=by
 have D:ca≠3:=by omega
 have E:jL ca=true:=by unfold jL;rcases hc with rfl|rfl<;>rfl
 have key:∀R:Rw,rowS ca t.1=some R->f.op=R.op->R.asks=0->px ca t.1 f tmZ noN=(addS ca t.1 f ((f.subs[0]?).getD fm0) ((f.subs[1]?).getD fm0),0):=λR h1 h2 G=>by
  unfold px;rw[E,h1];exact F7 h (.inr h2) |>.trans (by rw[c_ G])
 have A:=pC D h;cases A with
 | atom n=>simp[addF] at ht
 | fls=>simp[addF] at ht
 | neg J =>
  cases r<;>simp[addF] at ht<;>subst ht<;>rw[key _ (by unfold rowS;rcases hc with rfl|rfl<;>rfl) rfl rfl]<;>rfl
 | @bin o a b U O _ _ =>
  obtain rfl|rfl|rfl|rfl:o=4\/o=5\/o=6\/o=7:=by omega
  all_goals rcases hc with rfl|rfl<;>cases r<;>simp[addF,calJ] at ht
  all_goals first
   | (subst ht;rw[key _ rfl rfl rfl];rfl)
   | (rcases ht with rfl|rfl<;>(rw[key _ rfl rfl rfl];rfl))
def Pu {ca:Nat}(hc:ca≠3){f:Fm}(h:fmB ca f=true){j r:Bool}{t:Nat×List Sn}(ht:t∈addF j f r):∀p∈t.2,(∀g∈p.1,fmB ca g=true)/\∀g∈p.2,fmB ca g=true:=by
 have A:=pC hc h;cases A with
 | atom n=>simp[addF] at ht
 | fls=>simp[addF] at ht
 | neg ha =>
  have:=Hw h;cases r<;>simp[addF] at ht<;>subst ht<;>simp[this]
 | @bin o a b U O _ _ =>
  obtain⟨E,D,J,G⟩:=Hx ⟨by omega,U,O⟩ h;obtain rfl|rfl|rfl|rfl:o=4\/o=5\/o=6\/o=7:=by omega
  all_goals cases r<;>cases j<;>simp[addF] at ht
  all_goals first|(subst ht;simp[E,D,J,G])|(rcases ht with rfl|rfl<;>simp[E,D])
structure SpOk (ca:Nat)(W:List Fm):Prop where
 cal:ca=1\/ca=2
 srt:Srt W
 len:W.length<=1000000
 fm:∀f∈W,fmB ca f=true
 full:Full W
def SpOk.sub {ca:Nat}{W:List Fm}(h:SpOk ca W){f:Fm}(A:f∈W){j r:Bool}{t:Nat×List Sn}(ht:t∈addF j f r){p:Sn}(hp:p∈t.2):InW W p:=h.full f A j r t ht p hp
def SpOk.pf {ca:Nat}{W:List Fm}(h:SpOk ca W){f:Fm}(A:f∈W):PF f:=pC (by have:=h.cal;omega) (h.fm f A)
def SpOk.size {ca:Nat}{W:List Fm}(h:SpOk ca W){f:Fm}(A:f∈W):f.size<=400:=by
 have:=h.fm f A;unfold fmB Fm.right at this;simp only[bAt,dTe] at this;exact this.1.1.2
end Go.Proofs.Tryz
namespace Go.Proofs.Tryz
open Go Go.Iv
set_option maxRecDepth 4000
variable (gl:Nat->Option IV)
def u8I (l:List Nat):List IV:=l.map λ(n:Nat)=>.raw (.int .u8 (n:Int))
def Pv (a b:Operand):mA 2 [(0,a),(1,b)]=true:=rfl
def Pw (ca m:Nat)(tw:Tag)(xw:List IV)(op:Nat)(r:Bool)(st:ISt) :
  ICall prog gl 151 [spI ca tw xw m,.raw (.int .u8 (op:Int)),r] st (λx st'=>(∃t,x=.sl t (u8I (ke (calJ ca) op r))/\okEs t 1)/\st'=st):=by
 have d:∀c:Nat,decide ((op:Int)=(c:Int))=decide (op=c):=λc=>gM.2 (by omega);have d3:decide ((op:Int)=3)=decide (op=3):=d 3;have d4:decide ((op:Int)=4)=decide (op=4):=d 4;have d5:decide ((op:Int)=5)=decide (op=5):=d 5;have d6:decide ((op:Int)=6)=decide (op=6):=d 6;have d7:decide ((op:Int)=7)=decide (op=7):=d 7;have U:decide ((ca:Int)=2)=calJ ca:=gM.2 (by omega);unfold ke;refine iI func151 ?_;by_cases A:op=3
 ·rw[c_ A];cases r
  ·simp only[go_sem,zE,zM,zL,reduceCtorEq,d3,dEt A,fits,fg];exact dw ⟨⟨_,rfl,.inr rfl⟩,rfl⟩
  ·simp only[go_sem,zE,zM,zL,d3,dEt A,fits,fg];exact dw ⟨⟨_,rfl,.inr rfl⟩,rfl⟩
 ·by_cases D:op=4
  ·rw[a_ A,c_ D];cases r
   ·simp only[go_sem,zE,zM,zL,reduceCtorEq,d3,d4,dEf A,dEt D,fits,fg];exact dw ⟨⟨_,rfl,.inr rfl⟩,rfl⟩
   ·simp only[go_sem,zE,zM,zL,d3,d4,dEf A,dEt D,fits,fg];exact dw ⟨⟨_,rfl,.inr rfl⟩,rfl⟩
  ·by_cases E:op=5
   ·rw[a_ A,a_ D,c_ E];cases r
    ·simp only[go_sem,zE,zM,zL,reduceCtorEq,d3,d4,d5,dEf A,dEf D,dEt E,fits,fg];exact dw ⟨⟨_,rfl,.inr rfl⟩,rfl⟩
    ·cases O:calJ ca
     ·simp only[go_sem,zE,zM,zL,reduceCtorEq,d3,d4,d5,dEf A,dEf D,dEt E,fits,fg,U,O];exact dw ⟨⟨_,rfl,.inr rfl⟩,rfl⟩
     ·simp only[go_sem,zE,zM,zL,reduceCtorEq,d3,d4,d5,dEf A,dEf D,dEt E,fits,Pv,U,O];exact dw ⟨⟨_,rfl,.inr rfl⟩,rfl⟩
   ·by_cases G:op=6
    ·rw[a_ A,a_ D,a_ E,c_ G];cases r
     ·simp only[go_sem,zE,zM,zL,reduceCtorEq,d3,d4,d5,d6,dEf A,dEf D,dEf E,dEt G,fits,fg];exact dw ⟨⟨_,rfl,.inr rfl⟩,rfl⟩
     ·simp only[go_sem,zE,zM,zL,d3,d4,d5,d6,dEf A,dEf D,dEf E,dEt G,fits,fg];exact dw ⟨⟨_,rfl,.inr rfl⟩,rfl⟩
    ·by_cases J:op=7
     ·rw[a_ A,a_ D,a_ E,a_ G,c_ J];cases r
      ·simp only[go_sem,zE,zM,zL,reduceCtorEq,d3,d4,d5,d6,d7,dEf A,dEf D,dEf E,dEf G,dEt J,fits,fg];exact dw ⟨⟨_,rfl,.inr rfl⟩,rfl⟩
      ·simp only[go_sem,zE,zM,zL,d3,d4,d5,d6,d7,dEf A,dEf D,dEf E,dEf G,dEt J,fits,fg];exact dw ⟨⟨_,rfl,.inr rfl⟩,rfl⟩
     ·rw[a_ A,a_ D,a_ E,a_ G,a_ J];simp only[go_sem,zE,d3,d4,d5,d6,d7,dEf A,dEf D,dEf E,dEf G,dEf J];exact dw ⟨⟨_,rfl,.inl rfl⟩,rfl⟩
@[go_sem] def WW:mapI prog 156=some (.pl,.sl ⟨true,.nil,0⟩ []):=by kernel_rfl
def AllR {α:Type}(R:α->IV->Prop)(l:List α)(A:List IV):Prop:=A.length=l.length/\∀(i:Nat) (a:α),l[i]?=some a->∃x,A[i]?=some x/\R a x
def AllR.nil {α:Type}{R:α->IV->Prop}:AllR R [] []:=⟨rfl,λi a h=>by simp at h⟩
def AllR.snoc {α:Type}{R:α->IV->Prop}{l:List α}{E:List IV}{a:α}{x:IV}(h:AllR R l E)(J:R a x):AllR R (l++[a]) (E++[x]):=by
 refine⟨by simp[h.1],λi b A=>?_⟩;rcases gO i l.length with D|D
 ·rw[gw D] at A;rw[gw (by rw[h.1];exact D)];exact h.2 i b A
 ·rw[gD D] at A;rw[gD (by rw[h.1];exact D),h.1];cases G:i-l.length with
  | zero=>rw[G] at A;cases A;exact⟨x,rfl,J⟩
  | succ n=>rw[G] at A;simp at A
def IsEx (e:Ex)(x:IV):Prop:=∃t1 t2,x=.agg [.sl t1 (eJ e.1.1),.sl t2 (eJ e.1.2),(e.2.1:Int),(e.2.2:Int)]/\okEs t1 1/\okEs t2 1
abbrev Tn:=Nat×List Ex
def IsTn (t:Tn)(x:IV):Prop:=∃A ys,x=.agg [.raw (.int .u8 (t.1:Int)),.sl A ys]/\okEs A 4/\AllR IsEx t.2 ys
def wZ (l:List Tn)(x:IV):Prop:=∃t ys,x=.sl t ys/\okEs t 2/\AllR IsTn l ys
noncomputable def ij (W:List Fm)(j:Bool)(f:Fm)(r:Bool):List Tn:=(addF j f r).map λt=>(t.1,t.2.map (exW W))
def plV (i:Nat)(r:Bool):Value:=.agg #[.int .i64 (i:Int),.bool r]
def CacheOk (ca:Nat)(W:List Fm)(es:List (Value×IV)):Prop:=∀p∈es,∃i r f,p.1=plV i r/\W[i]?=some f/\wZ (ij W (calJ ca) f r) p.2
def Hz {i:Nat}{r:Bool}{x:IV}:∀ {es:List (Value×IV)},hZ (plV i r) es=some x->(∀p∈es,∃(i:Nat) (r:Bool),p.1=plV i r)->(plV i r,x)∈es
 | [],h,_=>by cases h
 | (k,v)::es,h,A=>by
  obtain⟨D,r',E⟩:=A _ (.head _);simp only at E;subst E;simp only[hZ] at h;have G:jb (plV i r) (plV D r')=(decide ((i:Int)=D)&&decide (r=r')):=rfl;rw[G] at h;by_cases hc:(i:Int)=D/\r=r'
  ·obtain⟨h1,h2⟩:=hc;obtain rfl:i=D:=by omega
   subst h2;simp at h;subst h;exact .head _
  ·rw[a_ (by simpa using hc)] at h;exact .tail _ (Hz h λp hp=>A p (.tail _ hp))
def HA {k:Value}{v:IV}:∀ {es:List (Value×IV)} {p:Value×IV},p∈updI k v es->p=(k,v)\/p∈es
 | [],p,h=>.inl (eY.1 h)
 | (x,u)::es,p,h=>by
  simp only[updI] at h;split at h
  ·rcases eK.1 h with h|h
   ·exact .inl h
   ·exact .inr (.tail _ h)
  ·rcases eK.1 h with h|h
   ·exact .inr (by rw[h];exact .head _)
   ·exact (HA h).imp id (.tail _)
def CacheOk.upd {ca:Nat}{W:List Fm}{es:List (Value×IV)}(h:CacheOk ca W es){i:Nat}{r:Bool}{f:Fm}{x:IV}(D:W[i]?=some f)(A:wZ (ij W (calJ ca) f r) x):CacheOk ca W (updI (plV i r) x es):=λp hp=>by
 rcases HA hp with rfl|hp
 ·exact⟨i,r,f,rfl,D,A⟩
 ·exact h p hp
def Px {st st':ISt}{m:Nat}{o:Option IObj}(h:subSt st st'):subSt (st.put m o) (st'.put m o):=λc x hc=>by
 rw[ISt.put_apply] at hc ⊢;split
 ·rename_i A;rw[c_ A] at hc;exact hc
 ·rename_i A;rw[a_ A] at hc;exact h c x hc
def HB {j r:Bool}{f:Fm}{t:Nat×List Sn}(h:t∈addF j f r):∀p∈t.2,p.1.length<=2/\p.2.length<=2:=by
 unfold addF at h;split at h<;>(try split at h)<;>simp at h<;>first|(subst h;simp)|(rcases h with rfl|rfl<;>simp)
def BF {j r:Bool}{f:Fm}{t:Nat×List Sn}(h:t∈addF j f r):t.2.length<=2:=by
 unfold addF at h;split at h<;>(try split at h)<;>simp at h<;>first|(subst h;simp)|(rcases h with rfl|rfl<;>simp)
def HC {f:Fm}{n:Nat}{l:List IV}(h:IsFm f (.agg (.raw (.int .u8 (n:Int))::l))):n=f.op:=by
 obtain⟨o,G,us,sub⟩:=f;obtain⟨t,D,E,ys,A,_⟩:=h.mk;simp only[IV.agg.injEq,List.cons.injEq,IV.raw.injEq,Value.int.injEq,true_and] at A;exact Int.ofNat.inj A.1
def Py (G:Gl gl)(T:Gt gl)(ca m:Nat)(W:List Fm)(hS:SpOk ca W)(tw:Tag)(xw:List IV)(ao:okEs tw 4)(an:IsFms W xw)(i:Nat)(r:Bool)(f:Fm)(hf:W[i]?=some f)(es:List (Value×IV))(ae:CacheOk ca W es)(st:ISt)(hm:st m=some (.map .pl es)) :
  ICall prog gl 121 [spI ca tw xw m,.agg [.raw (.int .i64 (i:Int)),.raw (.bool r)]] st (λx st'=>wZ (ij W (calJ ca) f r) x/\∃aA,CacheOk ca W aA/\st'=st.put m (some (.map .pl aA))):=by
 have bh:i<W.length:=(lGs hf).1;have aV:=hS.len;have ac:=lMg hf;have aT:=hS.fm f ac;obtain⟨y,aQ,hy⟩:=an.get hf;have av:gK .pl (plV i r)=true:=by
  show (decide (-9223372036854775808<=(i:Int))&&decide ((i:Int)<=9223372036854775807))=true;rw[bAt,dTe,dTe];omega
 refine ICall.intro (c:=cf prog gl [] [(14,[0,1,2,3,5,6,7,8,9,10,4,11,12,13,14,15])]) func121 rfl (by show _<=94;simp) (by kernel_rfl) ?_;have aS:∀o:Option IV,hZ (.agg #[.int .i64 (i:Int),.bool r]) es=o->∀x,o=some x->wZ (ij W (calJ ca) f r) x:=λo ho x hx=>by
  subst hx;have au:=Hz (i:=i) (r:=r) ho λp hp=>by obtain⟨i',r',f',h1,_⟩:=ae p hp;exact⟨i',r',h1⟩
  obtain⟨i',r',f',h1,h2,h3⟩:=ae _ au;have h1:plV i r=plV i' r':=h1;simp only[plV,Value.agg.injEq,Array.mk.injEq,List.cons.injEq,Value.int.injEq,true_and,Value.bool.injEq,and_true] at h1;obtain⟨h4,rfl⟩:=h1;obtain rfl:i=i':=by omega
  rw[hf] at h2;cases h2;exact h3
 simp only[go_sem,zE,zA,zL,reduceCtorEq,fits,hm,show gK .pl (.agg #[.int .i64 (i:Int),.bool r])=true from av];cases hq:hZ (.agg #[.int .i64 (i:Int),.bool r]) es with
 | some x =>
  obtain⟨t,ys,rfl,ht,hys⟩:=aS _ hq x rfl;simp only[go_sem,zE,lY,fz,Option.isSome_some];exact dw ⟨⟨t,ys,rfl,ht,hys⟩,es,ae,(ki hm).symm⟩
 | none =>
  have ay:=wY (ca:=ca) (hS.pf ac) r;have az:(ke (calJ ca) f.op r).length=(addF (calJ ca) f r).length:=by rw[<- ay,eP]
  have bj:(addF (calJ ca) f r).length<=1000:=by
   rw[<- az];unfold ke
   repeat' split
   all_goals simp
  have ab:=λst=>Pw gl ca m tw xw f.op r st;have ax:=λrule st=>O3 gl G T ca rule f y hy (by have:=hS.size ac;omega) tmZ (.agg [.raw (.bool false),.raw (.string noN),.sl ⟨true,.nil,0⟩ []]) (by simp only[IsTm];exact⟨_,_,rfl,.inl rfl,by simp only[IsTms]⟩) (by decide) noN st;obtain⟨y1,y2,y3,y4,y5,y6,rfl⟩:=hy.agg;obtain rfl:y1=f.op:=HC hy;simp only[go_sem,zE,zB,zA,zL,reduceCtorEq,lY,gh,iw,fits,aQ,ec ao,iNn];refine (ab _).mono ?_;rintro _ st ⟨⟨tL,rfl,aI⟩,rfl⟩;simp only[go_sem,u8I,eP,az];intro _;refine dC (addF (calJ ca) f r).length (λk fr st' ds=>(∃t ys,fr 5=.iv (.sl t ys)/\AllR IsTn ((ij W (calJ ca) f r).take k) ys/\own st' t k 2 st/\subSt st st')/\fr 0=.iv (spI ca tw xw m)/\fr 3=.box [.raw (.int .i64 (i:Int)),.raw (.bool r)] /\
   fr 7=.box [.raw (.int .u8 (f.op:Int)),.raw (.string y2),.sl y3 y4,.sl y5 y6]/\fr 39=.iv (.sl tL (u8I (ke (calJ ca) f.op r)))/\fr 40=.iv (.raw (.int .i64 (addF (calJ ca) f r).length))/\fr 41=.iv (.raw (.int .i64 (k:Int)))/\ds=[]) ?_ ?_ ?_
  ·simp only[go_sem,zE,reduceCtorEq,u8I];exact⟨⟨_,_,rfl,AllR.nil,own.nil _ _ _ _ _,subSt.refl _⟩,rfl⟩
  ·rintro k fr am _ aj ⟨⟨t,ys,f5,hys,D,A⟩,f0,f3,f7,f39,f40,f41,rfl⟩;obtain⟨E,ag⟩:=ed aj;have htm:=lMg ag;have aJ:(ke (calJ ca) f.op r)[k]?=some E.1:=by rw[<- ay,fH,ag];rfl
   have hu:(u8I (ke (calJ ca) f.op r))[k]?=some (.raw (.int .u8 (E.1:Int))):=by rw[u8I,fH,aJ];rfl
   have aU:=Hy hS.cal aT htm;have ah:=λp hp=>hS.sub ac htm (p:=p) hp;simp only[go_sem,zE,zA,zL,reduceCtorEq,f0,f7,f39,f40,f41,lt_i aj,ec aI,iNn,hu,fits];refine (ax E.1 _).mono ?_;rintro _ am ⟨ta,xa,rfl,hta,af,rfl⟩;rw[aU] at af ⊢;simp only[go_sem,zE,zA,zL,show decide (((0:Nat):Int)=0)=true from rfl,fits];have aH:xa.length=E.2.length:=by rw[af.len,eP]
   have aL:=HB htm;have hp2:=BF htm;intro _;rw[aH];refine dC E.2.length (λq fr st' ds=>(∃t2 zs,fr 12=.box [.raw (.int .u8 (E.1:Int)),.sl t2 zs]/\AllR IsEx ((E.2.map (exW W)).take q) zs/\own st' t2 q 4 st/\own st' t k 2 st/\subSt st st')/\fr 0=.iv (spI ca tw xw m)/\fr 3=.box [.raw (.int .i64 (i:Int)),.raw (.bool r)]/\fr 5=.iv (.sl t ys) /\
    fr 7=.box [.raw (.int .u8 (f.op:Int)),.raw (.string y2),.sl y3 y4,.sl y5 y6]/\fr 39=.iv (.sl tL (u8I (ke (calJ ca) f.op r)))/\fr 40=.iv (.raw (.int .i64 (addF (calJ ca) f r).length))/\fr 41=.iv (.raw (.int .i64 (k:Int))) /\
    fr 60=.iv (.sl ta xa)/\fr 61=.iv (.raw (.int .i64 E.2.length))/\fr 62=.iv (.raw (.int .i64 (q:Int)))/\ds=[]) ?_ ?_ ?_
   ·simp only[go_sem,zE,reduceCtorEq];refine⟨⟨_,_,rfl,AllR.nil,own.nil _ _ _ _ _,D,A⟩,f0,f3,f5,f7,f39,f40,f41,rfl⟩
   ·rintro q fr al _ hq ⟨⟨t2,zs,f12,hzs,U,D,A⟩,f0,f3,f5,f7,f39,f40,f41,f60,f61,f62,rfl⟩;obtain⟨p,hp⟩:=ed hq;have aK:(E.2.map sqOf)[q]?=some (sqOf p):=by rw[fH,hp];rfl
    obtain⟨z,aE,hz⟩:=af.get aK;have ba:=aL p (lMg hp);have aO:=λst=>wX gl T ca m W tw xw ao an hS.srt aV (sqOf p) z hz ⟨by show p.1.length<=_;omega,by show p.2.length<=_;omega⟩ (ah p (lMg hp)) st;obtain⟨t3,x3,t4,x4,rfl,e3,i3,e4,i4⟩:=hz;simp only[go_sem,zE,zB,zA,zL,reduceCtorEq,f0,f12,f60,f61,f62,lt_i hq,ec hta,iNn,aE,fits];refine (aO _).mono ?_;rintro _ al ⟨⟨t5,t6,rfl,e5,e6⟩,rfl⟩;simp only[go_sem,zE,zA,zM,zL,fits,i3.len,i4.len,fg];have aD:zs.length=q:=by rw[hzs.1,eO,eP];omega
    refine je U aD A rfl (by simp[fits,IV.one]) (by simp only;omega) (by omega) λaC ak O J aa=>?_;have ai:own ak t k 2 st:=D.mono λg hg _=>aa g _ hg λn hn=>by cases hn
    simp only[go_sem,zE,zA,zL,reduceCtorEq,f0,f3,f5,f7,f12,f39,f40,f41,f60,f61,f62,ek hq (by omega)];refine⟨aC,_,rfl,?_,O,ai,J⟩;rw[en (show (E.2.map (exW W))[q]?=some (exW W p) by rw[fH,hp];rfl)];exact hzs.snoc ⟨t5,t6,rfl,e5,e6⟩
   ·rintro fr al _ ⟨⟨t2,zs,f12,hzs,U,D,A⟩,f0,f3,f5,f7,f39,f40,f41,f60,f61,f62,rfl⟩;have aF:ys.length=k:=by
     rw[hys.1,eO];unfold ij;rw[eP];omega
    simp only[go_sem,zE,zA,zM,zL,f5,f12,f61,f62,eI (nLi _),fits,fg];refine je D aF A rfl (by simp[fits,IV.one]) (by simp only;omega) (by omega) λt' ak O J aa=>?_;simp only[go_sem,zE,reduceCtorEq,f0,f3,f7,f39,f40,f41,ek aj (by omega)];refine⟨t',_,rfl,?_,O,J⟩;unfold ij;rw[en (show ((addF (calJ ca) f r).map λt=>(t.1,t.2.map (exW W)))[k]?=some (E.1,E.2.map (exW W)) by rw[fH,ag];rfl)];refine hys.snoc ⟨t2,zs,rfl,U.es,?_⟩;rw[show E.2.length=(E.2.map (exW W)).length from (eP ..).symm,lTl] at hzs;exact hzs
  ·rintro fr am _ ⟨⟨t,ys,f5,hys,D,A⟩,f0,f3,f7,f39,f40,f41,rfl⟩;have aM:=A m _ hm;rw[show (addF (calJ ca) f r).length=(ij W (calJ ca) f r).length from (eP ..).symm,lTl] at hys;simp only[go_sem,zE,zA,zL,reduceCtorEq,f0,f3,f5,f40,f41,eI (nLi _),aM,show gK .pl (.agg #[.int .i64 (i:Int),.bool r])=true from av,fits];exact fN (Px A) ⟨⟨t,ys,rfl,D.es,hys⟩,_,ae.upd hf ⟨t,ys,rfl,D.es,hys⟩,rfl⟩
end Go.Proofs.Tryz
namespace Go.Iv
open Go
def Pz {st:ISt}{b:Nat}{cs:List IV}(h:st b=some (.box cs)):LendOk st (ISt.put (λ_=>none) b (some (.box cs))) (st.put b none):=by
 refine⟨λc o hc=>?_,λc o hc=>?_,λc cs' hc=>?_⟩
 ·rw[ISt.put_apply] at hc;split at hc
  ·rename_i A;rw[A,h];exact hc
  ·cases hc
 ·rw[ISt.put_apply] at hc;split at hc
  ·cases hc
  ·exact hc
 ·rw[ISt.put_apply] at hc ⊢;split at hc
  ·rename_i A;rw[c_ A]
  ·cases hc
def vcF (c:Cf)(t:Nat):Nat->Code->Kc->Fr->ISt->List Dfd->Prop
 | 0,A,Q,fr,st,ds=>∃b y,fr t=.iv (.raw (.pointer (some ⟨b,0,none⟩)))/\st b=some (.box y.cells)/\vcC c A Q (fr.put t (.iv (.cptr (age y)))) (st.put b none) ds
 | n+1,.seq a b,Q,fr,st,ds=>vcC c a (seqK (vcF c t n b Q) Q) fr st ds
 | _,_,_,_,_,_=>False
@[go_sem ↓] def WX {c:Cf}{t n:Nat}{a b:Code}{Q:Kc}{fr:Fr}{st:ISt}{ds:List Dfd}:vcF c t (n+1) (.seq a b) Q fr st ds=vcC c a (seqK (vcF c t n b Q) Q) fr st ds:=(rfl)
def Inv.frzAt {C:Cx}{X0 X:WS}{N:Nat}{fr:Fr}{ds:List Dfd}{a:Act}(h:Inv C X0 N X fr ds a){t b:Nat}{y:IV}(ht:t<N)(G:fr t=.iv (.raw (.pointer (some ⟨b,0,none⟩))))(O:X.st b=some (.box y.cells)) :
  ∃X',X'.w=X.w/\X'.st=X.st.put b none/\Inv C X0 N X' (fr.put t (.iv (.cptr (age y)))) ds a:=by
 have k:=Pz O;refine⟨X.lendS (ISt.put (λ_=>none) b (some (.box y.cells))) (X.st.put b none),rfl,rfl,?_⟩;have h1:=h.ext' (h.good.lendS_ext k) (h.good.lendS k);have hv:=h.fr.slot t;rw[G] at hv;have E:OI (ISt.put (λ_=>none) b (some (.box y.cells))) (.raw (.pointer (some ⟨b,0,none⟩))) (.cptr y):=.ptr b y y.cells (b_ ..) rfl λi r c D hc=>by
  rw[D] at hc;cases hc;exact .refl _
 have h2:=h1.put ht (E.v h.good k hv);have A:a.tmps.setIfInBounds t (tm a.tmps t)=a.tmps:=by
  refine Array.ext (by simp) λi h1 h2=>?_;rw[Array.getElem_setIfInBounds];split
  ·rename_i J;subst J;unfold tm;rw[lR,mZ h2];rfl
  ·rfl
 rw[A] at h2;simpa only[age] using h2
def HD {N:Nat}{c:Cf}{t:Nat}(ht:t<N){B:Nat}{X0:WS}{ro:Option Nat}{m:Nat}(E:c.rd=false->ro=none){Q:Kc}:∀(n:Nat) (A:Code) (X:WS) (fr:Fr) (ds:List Dfd) (a:Act),codeOk c N A=true →
  Inv (c.cx B) X0 N X fr ds a->vcF c t n A Q fr X.st ds->A.wpIn (fR ro) m c.P (PQ (c.cx B) X0 N Q) a X.w
 | 0,A,X,fr,ds,a,hd,J,h=>by
  obtain⟨b,y,h1,h2,U⟩:=h;obtain⟨X',e1,e2,D⟩:=J.frzAt ht h1 h2;rw[<- e2] at U;have:=vN A c B X0 ro m E Q X' _ ds a hd D U;rw[e1] at this;exact this
 | n+1,.seq x y,X,fr,ds,a,hd,J,h=>by
  simp only[codeOk,bAt] at hd;refine wpIn_seq (gT (vN x c B X0 ro m E _ X fr ds a hd.1 J h) ?_);rintro e a' w' ⟨X',fr',G,rfl,D,O⟩;cases e with
  | normal=>exact HD ht E n y X' fr' G a' hd.2 D O
  | _=>exact⟨X',fr',G,rfl,D,O⟩
 | n+1,.skip,_,_,_,_,_,_,h=>h.elim
 | n+1,.region ..,_,_,_,_,_,_,h=>h.elim
 | n+1,.cond ..,_,_,_,_,_,_,h=>h.elim
 | n+1,.block ..,_,_,_,_,_,_,h=>h.elim
 | n+1,.loop ..,_,_,_,_,_,_,h=>h.elim
 | n+1,.exit ..,_,_,_,_,_,_,h=>h.elim
 | n+1,.label ..,_,_,_,_,_,_,h=>h.elim
 | n+1,.goto ..,_,_,_,_,_,_,h=>h.elim
 | n+1,.ret,_,_,_,_,_,_,h=>h.elim
 | n+1,.scope ..,_,_,_,_,_,_,h=>h.elim
 | n+1,.rangeFunc ..,_,_,_,_,_,_,h=>h.elim
 | n+1,.refuse ..,_,_,_,_,_,_,h=>h.elim
def k9 {c:Cf}{t n:Nat}{f:FuncId}{fn:Func}{A:Code}{args:List IV}{st:ISt}{K:IV->ISt->Prop}(O:c.P.funcs[f]?=some fn)(U:fn.body=some A)
  (hN:args.length<=fn.ntmps) (ht:t<fn.ntmps) (hd:codeOk c fn.ntmps A=true) (h:vcF c t n A (bodyK c.P c.gl fn.results.toList K) (frOf args) st []):ICall c.P c.gl f args st K:=by
 intro B X rs J hst hv;subst hst;refine (callsIn_wide (n:=0)).1 (callsIn_of_wp_marks O U trivial ?_);have hs:=HD (N:=fn.ntmps) ht (c:=c) (B:=B) (X0:=X) (ro:=none) (m:=0) (λ_=>rfl) n A X (frOf args) [] _ hd (Inv.start J hv hN) h;refine gT hs ?_;rintro e a' w' ⟨X',fr',D,rfl,G,E⟩;cases e with
 | normal=>exact qU D X' a' G E
 | ret=>exact qU D X' a' G E
 | _=>exact E.elim
end Go.Iv
namespace Go.Proofs.Tryz
open Go Go.Iv
set_option maxRecDepth 4000
variable (gl:Nat->Option IV)
def HE {c:Cf}{ops:Array Oper}{Q:Fr->ISt->List Dfd->Prop}{A:Array Bool}{ad:Ad}{fr:Fr}{st:ISt}{ds:List Dfd}(h:Q fr st ds):anyV c ops Q 0 A ad fr st ds:=λ_=>h
def uQ {c:Cf}{ops:Array Oper}{Q:Fr->ISt->List Dfd->Prop}{n:Nat}{A:Array Bool}{ad:Ad}{fr:Fr}{st:ISt}{ds:List Dfd}(i:Nat)(h:Region.ready .any ops A=[i])
  (hs:jP c ops.toList (opAt ops i) (anyV c ops Q n (A.setIfInBounds i true)) ad fr st ds):anyV c ops Q (n+1) A ad fr st ds:=by
 refine⟨λh0=>(by rw[h] at h0;cases h0),λj D=>?_⟩;rw[h,eY] at D;subst D;exact hs
def PA {c:Cf}{ops:Array Oper}{Q:Fr->ISt->List Dfd->Prop}{n:Nat}{A:Array Bool}{ad:Ad}{fr:Fr}{st:ISt}{ds:List Dfd}(i k:Nat)(h:Region.ready .any ops A=[i,k])
  (hs:jP c ops.toList (opAt ops i) (anyV c ops Q n (A.setIfInBounds i true)) ad fr st ds) (D:jP c ops.toList (opAt ops k) (anyV c ops Q n (A.setIfInBounds k true)) ad fr st ds):anyV c ops Q (n+1) A ad fr st ds:=by
 refine⟨λh0=>(by rw[h] at h0;cases h0),λj E=>?_⟩;rw[h,eK,eY] at E;rcases E with rfl|rfl
 ·exact hs
 ·exact D
def ql (c:Cf)(ops:List Oper)(dst:Option Nat)(op:Op)(D:TypeId)(pos:String)(A:Array Edge)(K:Kt)(ad:Ad)(fr:Fr)(st:ISt)(ds:List Dfd):jP c ops ⟨dst,op,D,pos,A,none⟩ K ad fr st ds=vcOp c dst op K ad fr st ds:=rfl
def w7 (fr:Fr)(d:Nat)(x y:SV):(fr.put d x).put d y=fr.put d y:=by
 funext s;simp only[Fr.put_apply];split<;>rfl
def BG {esc:List Nat}{ord:List (Nat×List Nat)}{frz:List Nat}{d A:Nat}{p:String}{Q:Fr->ISt->List Dfd->Prop}{fr:Fr}{st:ISt}(hd:d ∉ esc)(D:d≠A)(E:A ∉ esc)
  (h:∀b:Bool,Q ((fr.put d (.box [b])).put A b) st []) :
  mH (cf prog gl esc ord frz) #[⟨some d,.alloc 4,0,p,#[],none⟩,⟨none,.store 4 (.tmp d) (.const (.bool true)),0,p,#[⟨0,.data⟩,⟨2,.gcOnly .appendInPlace⟩],none⟩,
   ⟨none,.store 4 (.tmp d) (.const (.bool false)),0,p,#[⟨0,.data⟩,⟨1,.textOnly .appendInPlace⟩],none⟩,⟨some A,.load 4 (.tmp d),4,p,#[⟨0,.data⟩,⟨0,.phase⟩,⟨1,.phase⟩,⟨2,.phase⟩],none⟩] (some []) Q fr st []:=by
 rw[DX];refine uQ 0 (by kernel_rfl) ?_;simp only[go_sem,zA,hd,ql];refine PA 1 2 (by kernel_rfl) ?_ ?_
 ·simp only[go_sem,zL,ql];refine uQ 2 (by kernel_rfl) ?_;simp only[go_sem,zL,ql];refine uQ 3 (by kernel_rfl) ?_;simp only[go_sem,ql];refine HE ?_;rw[w7,w7];exact h false
 ·simp only[go_sem,zL,ql];refine uQ 1 (by kernel_rfl) ?_;simp only[go_sem,zL,ql];refine uQ 3 (by kernel_rfl) ?_;simp only[go_sem,ql];refine HE ?_;rw[w7,w7];exact h true
def iY:Fm->List Fm
 | .mk 7 n us [a,b]=>[.mk 7 n us [a,b],imF a b,imF b a]
 | f=>[f]
mutual
def cloF:Fm->List Fm
 | .mk o n us sub=>iY (.mk o n us sub)++gn sub
def gn:List Fm->List Fm
 | []=>[]
 | a::l=>cloF a++gn l
end
def k_ (ca m:Nat)(x:IV):IObj:=.box [.raw (.int .u8 (ca:Int)),x,.raw (.map (some m))]
def Fo (ca m A:Nat)(B0:ISt)(l:List Fm)(st:ISt):Prop:=(l=[]/\st=B0.put A (some (k_ ca m ()))) \/
 ∃g cap cs zs,l≠[]/\B0 g=none/\g≠A/\l.length<=cap/\cap*4<=cs.length/\cs.take (l.length*4)=zs.flatMap IV.cells/\IsFms l zs/\st=(B0.put A (some (k_ ca m (.raw (.slice (some ⟨g,0,none⟩) l.length cap))))).put g (some (.box cs))
abbrev ptr (b:Nat):IV:=.raw (.pointer (some ⟨b,0,none⟩))
abbrev colFn (b12 b6:Nat):IV:=.fn (.func 110) [] [.cptr (ptr b12),ptr b6]
def ColC (f:Fm):Prop:=∀(ca m D A:Nat) (x:IV) (_:IsFm f x) (B0 st:ISt) (l:List Fm),B0 D=some (.box [colFn A D])->D≠A->(l++cloF f).length<=1000000->Fo ca m A B0 l st →
 ICall prog gl 110 [x,.cptr (ptr A),ptr D] st (λ_ st'=>Fo ca m A B0 (l++cloF f) st')
def w_:allI pN [Value.int IntKind.u8 0,Value.string noN,Value.slice none 0 0,Value.slice none 0 0]=some [.raw (.int .u8 0),.raw (.string noN),.sl ⟨true,.nil,0⟩ [],.sl ⟨true,.nil,0⟩ []]:=rfl
def HF (f:Fm):1<=(iY f).length:=by
 unfold iY;split<;>simp
def HG {o:Nat}{n:ByteArray}{us:List Tm}{sub:List Fm}(h:¬ (o=7/\sub.length=2)):iY (.mk o n us sub)=[.mk o n us sub]:=by
 unfold iY;split
 ·rename_i A;cases A;exact absurd ⟨rfl,rfl⟩ h
 ·rfl
def BH {B0:ISt}{b g:Nat}{a z c:Option IObj}(h:g≠b):((B0.put b a).put g c).put b z=(B0.put b z).put g c:=by
 funext d;simp only[ISt.put_apply];by_cases h1:d=b
 ·subst h1;rw[c_ rfl,a_ λe=>h e.symm,c_ rfl]
 ·rw[a_ h1,a_ h1,a_ h1]
def rY {B0:ISt}{b g E:Nat}{a z c G:Option IObj}(J:B0 g=none)(h1:g≠b)(h2:E≠b):((((B0.put b a).put g c).put g none).put E G).put b z=(B0.put b z).put E G:=by
 funext d;simp only[ISt.put_apply];by_cases D:d=b
 ·subst D;rw[c_ rfl,a_ λe=>h2 e.symm,c_ rfl]
 ·rw[a_ D,a_ D,a_ D];by_cases A:d=g
  ·rw[c_ A,A,J]
  ·rw[a_ A,a_ A]
def xd {l:List Fm}{zs:List IV}(h:IsFms l zs):(zs.flatMap IV.cells).length=l.length*4:=by
 rw[<- h.len];refine iW zs λz A=>?_;obtain⟨a,D,_⟩:=rR h z A;cases a;obtain⟨_,_,_,_,rfl,_⟩:=D.mk;rfl
def BI {cs' Z z new:List IV}{n:Nat}(A:Z.length=n*4)(D:new.length=4)(hl:(n+1)*4<=cs'.length)(h:cs'.take ((n+1)*4)=Z++z):(cs'.take (n*4)++new++cs'.drop (n*4+4)).take ((n+1)*4)=Z++new:=by
 have h1:cs'.take (n*4)=Z:=by
  have:=eZ (List.take (n*4)) h;rw[List.take_take,ly (by omega),List.take_left' A] at this;exact this
 rw[h1,List.take_left'];rw[lLa,A,D];omega
def r_ {B0:ISt}{b g A:Nat}{a':IObj}{c:Option IObj}(G:B0 g=none)(E:g≠b)(D:A=g\/((B0.put b (some a')).put g c) A=none):A≠b/\B0 A=none:=by
 rcases D with rfl|h
 ·exact⟨E,G⟩
 ·by_cases h1:A=g
  ·subst h1;exact⟨E,G⟩
  ·rw[dZ h1] at h;by_cases h2:A=b
   ·subst h2;rw[b_] at h;cases h
   ·exact⟨h2,by rwa [dZ h2] at h⟩
def Fo.first {ca m A g cap:Nat}{B0:ISt}{cs:List IV}{f:Fm}{x:IV}(D:IsFm f x)(J:B0 g=none)(G:g≠A)(hc:1<=cap)(E:cap*4<=cs.length)(ht:cs.take 4=x.cells) :
  Fo ca m A B0 [f] ((B0.put A (some (k_ ca m (.raw (.slice (some ⟨g,0,none⟩) 1 cap))))).put g (some (.box cs))) :=
 .inr ⟨g,cap,cs,[x],by simp,J,G,hc,E,by simpa using ht,.one D,rfl⟩
def Fo.snoc {ca m A g cap:Nat}{B0:ISt}{cs:List IV}{l:List Fm}{zs:List IV}(D:IsFms l zs){f:Fm}{x:IV}(E:IsFm f x)(O:B0 g=none)(J:g≠A)(hc:l.length+1<=cap)(G:cap*4<=cs.length)
  (ht:cs.take ((l.length+1)*4)=zs.flatMap IV.cells++x.cells) :
  Fo ca m A B0 (l++[f]) ((B0.put A (some (k_ ca m (.raw (.slice (some ⟨g,0,none⟩) (l.length+1) cap))))).put g (some (.box cs))) :=
 .inr ⟨g,cap,cs,zs++[x],by simp,O,J,by simpa using hc,G,by simpa using ht,D.append (.one E),by simp⟩
def PB {c:Cf}{A:Code}{K:Fr->ISt->List Dfd->Prop}{Q:Kc}{fr:Fr}{st:ISt}{ds:List Dfd}(J:Fr->ISt->List Dfd->Prop)(h:vcC c A (seqK J Q) fr st ds)(D:∀fr st ds,J fr st ds->K fr st ds):vcC c A (seqK K Q) fr st ds :=
 th A (λe fr st ds=>by cases e<;>first|exact D _ _ _|exact id) h
def BJ {b:Bool}{c:Cf}{A B:Code}{K:Fr->ISt->List Dfd->Prop}{Q:Kc}{fr:Fr}{st:ISt}{ds:List Dfd}(J:Fr->ISt->List Dfd->Prop)(E:∀fr st ds,J fr st ds->K fr st ds)
  (h1:b=true->vcC c A (seqK J Q) fr st ds) (h2:b=false->vcC c B (seqK J Q) fr st ds):j7 b (vcC c A (seqK K Q) fr st ds) (vcC c B (seqK K Q) fr st ds) .mk .mk:=by
 have D:∀e fr st ds,seqK J Q e fr st ds->seqK K Q e fr st ds:=λe fr st ds=>by
  cases e<;>first|exact E _ _ _|exact id
 exact lI (λh=>th A D (h1 h)) (λh=>th B D (h2 h))
def xe {sub:List Fm}{k:Nat}{g:Fm}(h:sub[k]?=some g):gn (sub.take (k+1))=gn (sub.take k)++cloF g:=by
 have app:∀a b:List Fm,gn (a++b)=gn a++gn b:=λa b=>by
  induction a with
  | nil=>rfl
  | cons c a A=>simp only[fq,gn,A,fD]
 rw[en h,app];simp[gn]
def PC {l:List Fm}{o:Nat}{n:ByteArray}{us:List Tm}{sub:List Fm}{k:Nat}{g:Fm}(h:(l++cloF (.mk o n us sub)).length<=1000000)(D:sub[k]?=some g):(l++iY (.mk o n us sub)++gn (sub.take k)++cloF g).length<=1000000:=by
 have mono:∀(a:List Fm) (k:Nat),(gn (a.take k)).length<=(gn a).length:=λa=>by
  induction a with
  | nil=>intro k;simp
  | cons c a A =>
   intro k;cases k with
   | zero=>simp[gn]
   | succ k=>simp only[lv,gn,lLa];have:=A k;omega
 have h1:=mono sub (k+1);rw[xe D] at h1;simp only[cloF,lLa] at h h1 ⊢;omega
def Fo.self {ca m A E:Nat}{B0 st:ISt}{l:List Fm}{o:IObj}(h:Fo ca m A B0 l st)(D:B0 E=some o)(G:E≠A):st E=some o:=by
 rcases h with⟨_,rfl⟩|⟨g,cap,cs,zs,_,J,_,_,_,_,_,rfl⟩
 ·rw[dZ G,D]
 ·rw[dZ (by rintro rfl;rw[J] at D;cases D),dZ G,D]
def xg {a b:Fm}{x y:IV}(D:IsFm a x)(A:IsFm b y):IsFm (imF a b) (.agg [.raw (.int .u8 6),noN,(),.sl ⟨true,.full,4⟩ [x,y]]) :=
 ⟨_,_,_,_,rfl,by decide,.inl rfl,rfl,.inr rfl,⟨x,_,rfl,D,y,_,rfl,A,rfl⟩⟩
def PD (o:Nat)(n:ByteArray)(us:List Tm)(sub:List Fm)(IH:∀a∈sub,ColC gl a):ColC gl (.mk o n us sub):=by
 intro ca m b6 ab x hx B0 st l h6 n6 aq hF;obtain⟨t1,x1,t2,x2,rfl,ho,e1,i1,e2,i2⟩:=hx.mk;have aE:l.length+(iY (.mk o n us sub)).length<=1000000:=by rw[lLa] at aq;simp only[cloF,lLa] at aq;omega
 have aC:=HF (.mk o n us sub);refine ICall.intro (c:=cf prog gl [13,17,25,28,53,60,68,74,82,89,97,103] [(1,[]),(7,[]),(11,[])]) func110 rfl (by show _<=117;simp) (by kernel_rfl) ?_;simp only[go_sem,zE];refine BG gl (by decide) (by decide) (by decide) λc1=>?_;simp only[go_sem];refine BJ (λfr st ds=>Fo ca m ab B0 (l++[.mk o n us sub]) st/\ds=[]/\fr 1=.iv (.cptr (ptr ab))/\fr 2=.iv (ptr b6)/\fr 3=.box [.raw (.int .u8 (o:Int)),.raw (.string n),.sl t1 x1,.sl t2 x2]) ?_ (λh=>?_) (λh=>?_)
 ·rintro fr s1 _ ⟨av,rfl,f1,f2,f3⟩;rw[Lw];refine PB (λfr st ds=>Fo ca m ab B0 (l++iY (.mk o n us sub)) st/\ds=[]/\fr 1=.iv (.cptr (ptr ab))/\fr 2=.iv (ptr b6)/\fr 3=.box [.raw (.int .u8 (o:Int)),.raw (.string n),.sl t1 x1,.sl t2 x2]) ?_ ?_
  ·by_cases h7:o=7
   ·subst h7;by_cases h2:x2.length=2
    ·rw[i2.len] at h2;obtain⟨a,b,rfl⟩:∃a b,sub=[a,b]:=by
      match sub,h2 with
      | [a,b],_=>exact⟨a,b,rfl⟩
     obtain⟨xa,_,rfl,ia,xb,_,rfl,ib,rfl⟩:=i2;cases a with
     | mk oa na ua sa =>
     cases b with
     | mk ob nb ub sb =>
     obtain⟨aO,aK,aN,aJ,rfl,ha⟩:=ia.mk;obtain⟨aM,aI,aL,aH,rfl,hb⟩:=ib.mk;simp only[go_sem,zE,zA,zL,f3,show decide (((7:Nat):Int)=7)=true from rfl];refine lI (λ_=>?_) λh=>absurd h (by decide);simp only[go_sem,zE,zB,zA,zL,f3,fits,ec e2,show ((0:Int)<=0)=True from fU (by decide),show ((0:Int)<=1)=True from fU (by decide),show Int.toNat 0=0 from rfl,show Int.toNat 1=1 from rfl,IV.one];rw[show l++iY (.mk 7 n us [.mk oa na ua sa,.mk ob nb ub sb])=l++[.mk 7 n us [.mk oa na ua sa,.mk ob nb ub sb]]++[imF (.mk oa na ua sa) (.mk ob nb ub sb)]++[imF (.mk ob nb ub sb) (.mk oa na ua sa)] by simp[iY]];have hL:(l++[Fm.mk 7 n us [.mk oa na ua sa,.mk ob nb ub sb]]).length+2<=1000000:=by simp[iY] at aE ⊢;omega
     have aD:l++[Fm.mk 7 n us [.mk oa na ua sa,.mk ob nb ub sb]]≠[]:=by simp
     generalize l++[Fm.mk 7 n us [.mk oa na ua sa,.mk ob nb ub sb]]=L at av hL aD ⊢;refine BG gl (by decide) (by decide) (by decide) λc2=>?_;simp only[go_sem];refine BJ (λfr st ds=>Fo ca m ab B0 (L++[imF (.mk oa na ua sa) (.mk ob nb ub sb)]) st/\ds=[]/\fr 1=.iv (.cptr (ptr ab))/\fr 2=.iv (ptr b6) /\
      fr 3=.box [.raw (.int .u8 ((7:Nat):Int)),.raw (.string n),.sl t1 x1,.sl t2 [.agg [.raw (.int .u8 (oa:Int)),.raw (.string na),.sl aO aK,.sl aN aJ],.agg [.raw (.int .u8 (ob:Int)),.raw (.string nb),.sl aM aI,.sl aL aH]]] /\
      fr 4=.box [.raw (.int .u8 (oa:Int)),.raw (.string na),.sl aO aK,.sl aN aJ]/\fr 5=.box [.raw (.int .u8 (ob:Int)),.raw (.string nb),.sl aM aI,.sl aL aH]) ?_ (λh=>?_) (λh=>?_)
     ·rintro fr s2 _ ⟨az,rfl,f1,f2,f3,f4,f5⟩;have a6:(L++[imF (.mk oa na ua sa) (.mk ob nb ub sb)]).length+1<=1000000:=by rw[lLa];exact hL
      have aA:L++[imF (.mk oa na ua sa) (.mk ob nb ub sb)]≠[]:=by simp
      generalize L++[imF (.mk oa na ua sa) (.mk ob nb ub sb)]=L2 at az a6 aA ⊢;simp only[go_sem,zE];refine BG gl (by decide) (by decide) (by decide) λc3=>?_;obtain⟨g,cap,cs,zs,ay,O,A,J,E,ac,hzs,rfl⟩:=az.resolve_left λh=>aA h.1;cases c3
      ·simp only[go_sem,zE,zA,zM,zL,f1,f4,f5,fits,k_,dZ A.symm,fg,rm];refine lZ _ _ _ (b_ ..) rfl ⟨by show (L2.length+1)*72<=_;omega,by show L2.length+1<=_;omega⟩ ⟨J,E⟩ rfl ?_;intro g' G cs' aa k1 k2 k3;obtain⟨D,U⟩:=r_ O A aa;simp only[go_sem,zE,zA,zL,f1,f2,f3,dZ D.symm,dZ A.symm,IV.one];rw[rY O A D];exact .snoc hzs (xg ib ia) U D k1 k2 (k3.trans (eZ (·++_) ac))
      ·simp only[go_sem,zE,zA,zM,zL,f1,f4,f5,fits,k_,dZ A.symm,fg,rm,w_];refine lZ _ _ _ (b_ ..) rfl ⟨by show (L2.length+1)*72<=_;omega,by show L2.length+1<=_;omega⟩ ⟨J,E⟩ rfl ?_;intro g' G cs' aa k1 k2 k3;obtain⟨D,U⟩:=r_ O A aa;simp only[go_sem,zE,zA,zL,f1,f2,f3,dZ D.symm,dZ D,dZ A.symm,IV.one];have aQ:G*4<=cs'.length:=k2;have aS:L2.length+1<=G:=k1;rw[c_ ⟨iNn _,fP _⟩,c_ (by omega),rY O A D,fW];exact .snoc hzs (xg ib ia) U D k1 (by simp only[lLa,eO,jm,fa,fb];omega) (BI (by rw[xd hzs]) rfl (by omega) (k3.trans (eZ (·++_) ac)))
     ·obtain⟨g,cap,cs,zs,ay,O,A,J,E,ac,hzs,rfl⟩:=av.resolve_left λh=>aD h.1;simp only[go_sem,zE,zA,zM,zL,f1,fits,k_,dZ A.symm,fg,rm,w_];refine lZ _ _ _ (b_ ..) rfl ⟨by show (L.length+1)*72<=_;omega,by show L.length+1<=_;omega⟩ ⟨J,E⟩ rfl ?_;intro g' G cs' aa k1 k2 k3;obtain⟨D,U⟩:=r_ O A aa;simp only[go_sem,zE,zA,zL,f1,f2,f3,dZ D.symm,dZ D,dZ A.symm,IV.one];have aQ:G*4<=cs'.length:=k2;have aS:L.length+1<=G:=k1;rw[c_ ⟨iNn _,fP _⟩,c_ (by omega),rY O A D,fW];exact .snoc hzs (xg ia ib) U D k1 (by simp only[lLa,eO,jm,fa,fb];omega) (BI (by rw[xd hzs]) rfl (by omega) (k3.trans (eZ (·++_) ac)))
     ·obtain⟨g,cap,cs,zs,ay,O,A,J,E,ac,hzs,rfl⟩:=av.resolve_left λh=>aD h.1;simp only[go_sem,zE,zA,zM,zL,f1,fits,k_,dZ A.symm,fg,rm];refine lZ _ _ _ (b_ ..) rfl ⟨by show (L.length+1)*72<=_;omega,by show L.length+1<=_;omega⟩ ⟨J,E⟩ rfl ?_;intro g' G cs' aa k1 k2 k3;obtain⟨D,U⟩:=r_ O A aa;simp only[go_sem,zE,zA,zL,f1,f2,f3,dZ D.symm,dZ A.symm,IV.one];rw[rY O A D];exact .snoc hzs (xg ia ib) U D k1 k2 (k3.trans (eZ (·++_) ac))
    ·have ba:¬ ((x2.length:Nat):Int)=2:=by omega
     simp only[go_sem,zE,f1,f2,f3,ba,decide_false,show decide (((7:Nat):Int)=7)=true from rfl];intro _;rw[HG λh=>h2 (by rw[i2.len,h.2])];exact av
   ·have a8:¬ (o:Int)=7:=by omega
    simp only[go_sem,zE,zA,f1,f2,f3,a8,decide_false];rw[HG λh=>h7 h.1];exact av
  ·rintro fr s2 _ ⟨az,rfl,f1,f2,f3⟩;simp only[go_sem,zE,f3];intro _;have aC:=i2.len;refine dC x2.length (λk fr st' ds=>Fo ca m ab B0 (l++iY (.mk o n us sub)++gn (sub.take k)) st'/\fr 1=.iv (.cptr (ptr ab))/\fr 2=.iv (ptr b6)/\fr 107=.iv (.sl t2 x2)/\fr 108=.iv (.raw (.int .i64 x2.length))/\fr 109=.iv (.raw (.int .i64 (k:Int)))/\ds=[]) ?_ ?_ ?_
   ·simp only[go_sem,zE];simpa[gn] using ⟨az,f1,f2⟩
   ·rintro k fr aB _ aW ⟨au,f1,f2,f107,f108,f109,rfl⟩;rw[aC] at aW;obtain⟨g,O⟩:=ed aW;obtain⟨z,hz,aX⟩:=i2.get O;have IHg:=IH g (lMg O) ca m b6 ab z aX B0 aB _ h6 n6 (PC aq O) au;cases g with
    | mk og ng ug sg =>
    obtain⟨bj,bh,bi,bg,rfl,bm⟩:=aX.mk;simp only[go_sem,zE,zB,zA,zL,f2,f107,f108,f109,lt_i (show k<x2.length by omega),ec e2,iNn,hz,fits,IV.one];rw[au.self h6 n6];simp only[go_sem];refine IHg.mono ?_;rintro _ aB a7;simp only[go_sem,zE,f1,f2,f107,f108,f109,ek (show k<x2.length by omega) (by omega)];rw[xe O,<- fD];exact a7
   ·rintro fr aB _ ⟨au,f1,f2,f107,f108,f109,rfl⟩;rw[aC,lTl] at au;simp only[go_sem,f108,f109,eI (nLi _)];refine dw ?_;rw[cloF,<- fD];exact au
 ·rcases hF with⟨rfl,rfl⟩|⟨g,cap,cs,zs,ay,O,A,J,E,ac,hzs,rfl⟩
  ·simp only[go_sem,zE,zA,zM,zL,fits,k_,fg,w_];intro g cap aF;obtain⟨O,aG⟩:=aF;have gb:g≠ab:=by rintro rfl;rw[b_] at O;cases O
   rw[dZ gb] at O;simp only[go_sem,zA,zL,dZ gb.symm,dZ gb,IV.one,show ((0:Int)<=((0:Nat):Int)/\(0:Nat)<1)=True from fU (by decide),fE,List.flatMap_nil,IV.cells,fL,fq,f_];rw[BH gb,fW];exact .first hx O gb aG (by simp;omega) rfl
  ·simp only[go_sem,zE,zA,zM,zL,fits,k_,dZ A.symm,fg,w_];refine lZ _ _ _ (b_ ..) rfl ⟨by show (l.length+1)*72<=_;omega,by show l.length+1<=_;omega⟩ ⟨J,E⟩ rfl ?_;intro g' G cs' aa k1 k2 k3;obtain⟨D,U⟩:=r_ O A aa;simp only[go_sem,zE,zA,zL,dZ D.symm,dZ D,dZ A.symm,IV.one];have aQ:G*4<=cs'.length:=k2;have aS:l.length+1<=G:=k1;rw[c_ ⟨iNn _,fP _⟩,c_ (by omega),rY O A D,fW];exact .snoc hzs hx U D k1 (by simp only[lLa,eO,jm,fa,fb];omega) (BI (by rw[xd hzs]) rfl (by omega) (k3.trans (eZ (·++_) ac)))
 ·rcases hF with⟨rfl,rfl⟩|⟨g,cap,cs,zs,ay,O,A,J,E,ac,hzs,rfl⟩
  ·simp only[go_sem,zE,zA,zM,zL,fits,k_,fg];intro g cap aF;obtain⟨O,aG⟩:=aF;have gb:g≠ab:=by rintro rfl;rw[b_] at O;cases O
   rw[dZ gb] at O;simp only[go_sem,zA,zL,dZ gb.symm,IV.one];rw[BH gb];exact .first hx O gb aG (by simp[IV.cells];omega) rfl
  ·simp only[go_sem,zE,zA,zM,zL,fits,k_,dZ A.symm,fg];refine lZ _ _ _ (b_ ..) rfl ⟨by show (l.length+1)*72<=_;omega,by show l.length+1<=_;omega⟩ ⟨J,E⟩ rfl ?_;intro g' G cs' aa k1 k2 k3;obtain⟨D,U⟩:=r_ O A aa;simp only[go_sem,zE,zA,zL,dZ D.symm,dZ A.symm,IV.one];rw[rY O A D];exact .snoc hzs hx U D k1 k2 (k3.trans (eZ (·++_) ac))
mutual
def HH:∀f:Fm,ColC gl f
 | .mk o n us sub=>PD gl o n us sub (HI sub)
def HI:∀l:List Fm,∀a∈l,ColC gl a
 | [],_,h=>by cases h
 | b::l,a,h=>by
  rcases eK.1 h with h1|h
  ·rw[h1];exact HH b
  ·exact HI l a h
end
def PE (T:Gt gl)(ca m:Nat)(tw:Tag)(xw:List IV)(ln:Ln)(x:IV)(hx:IsLn ln x)(e:Ex)(y:IV)(hy:IsEx e y)(hl:ln.1.length<=300000/\ln.2.length<=300000/\e.1.1.length<=300000/\e.1.2.length<=300000/\e.2.1<=300000/\e.2.2<=300000)(st:ISt) :
  ICall prog gl 122 [spI ca tw xw m,x,y] st (λr st'=>(∃a b c d,r=.tup [.agg [.sl a b,.sl c d],(!tooN (calJ ca) ln e:Bool)]/\(tooN (calJ ca) ln e=false->IsLn (k8 (calJ ca) ln e) (.agg [.sl a b,.sl c d])))/\st'=st):=by
 obtain⟨t1,t2,rfl,e1,e2⟩:=hx;obtain⟨t3,t4,rfl,e3,e4⟩:=hy;obtain⟨l1,l2,l3,l4,l5,l6⟩:=hl;have E:decide ((ca:Int)=2)=calJ ca:=gM.2 (by omega);have G:IntKind.i64.wrap ((ln.1.length:Int)+(e.2.1:Int))=((ln.1.length+e.2.1:Nat):Int):=by rw[w64 (by omega) (by omega)];omega
 have d1:decide ((64:Int)<((ln.1.length+e.2.1:Nat):Int))=decide (64<ln.1.length+e.2.1):=gM.2 (by omega);have d0:decide ((0:Int)<(e.2.2:Int))=decide (0<e.2.2):=gM.2 (by omega);have nl:(eJ [])=[]:=rfl;have hj:=λ(R:List Nat) (tR:Tag) (D:okEs tR 1) (ah:R.length<=300000) st=>Hu gl T R e.1.2 tR t4 D e4 (by omega) st;have J:=λst=>Hu gl T ln.1 e.1.1 t1 t3 e1 e3 (by omega) st;refine ICall.intro (c:=cf prog gl [] [(5,[0,1,2,3,4,6,7,8,9,10,5,11,12,13,14])]) func122 rfl (by show _<=49;simp) (by kernel_rfl) ?_;generalize calJ ca=jj at E ⊢;cases jj
 ·have D:rgtN (false) ln e=ln.2:=by unfold rgtN;rw[a_ (by simp)]
  have A:IntKind.i64.wrap (((ln.2).length:Int)+(e.2.2:Int))=(((ln.2).length+e.2.2:Nat):Int):=by rw[w64 (by first|omega|(simp only[fb];omega)) (by first|omega|(simp only[fb];omega))];first|omega|(simp only[fb];omega)
  have d2:decide ((64:Int)<(((ln.2).length+e.2.2:Nat):Int))=decide (64<(ln.2).length+e.2.2):=gM.2 (by omega);by_cases h1:64<ln.1.length+e.2.1
  ·have ht:tooN (false) ln e=true:=by unfold tooN;rw[dEt h1];rfl
   simp only[go_sem,zE,zA,zL,reduceCtorEq,E,fits,gN,G,d1,dEt h1];intros;exact dw ⟨⟨_,_,_,_,by rw[ht];rfl,λh=>by rw[ht] at h;cases h⟩,rfl⟩
  ·by_cases h2:64<(ln.2).length+e.2.2
   ·have ht:tooN (false) ln e=true:=by unfold tooN;rw[D,dEt h2,Bool.or_true]
    try simp only[fb] at A d2
    simp only[go_sem,zE,zA,zL,reduceCtorEq,E,fits,gN,G,d1,dEf h1,A,dEt h2,d2];intros;exact dw ⟨⟨_,_,_,_,by rw[ht];rfl,λh=>by rw[ht] at h;cases h⟩,rfl⟩
   ·have ht:tooN (false) ln e=false:=by unfold tooN;rw[D,dEf h1,dEf h2];rfl
    try simp only[fb] at A d2
    simp only[go_sem,zE,zA,reduceCtorEq,E,fits,gN,G,d1,dEf h1,A,dEf h2,d2];intros;refine (J _).mono ?_;rintro _ st ⟨⟨t5,rfl,U⟩,rfl⟩;simp only[go_sem,zE,zA];refine (hj (ln.2) t2 (by first|exact e2|exact .inl rfl) (by first|omega|(simp only[fb];omega)) _).mono ?_;rintro _ st ⟨⟨t6,rfl,O⟩,rfl⟩;simp only[go_sem,zE,zA,zL,fits];exact dw ⟨⟨_,_,_,_,by rw[ht];rfl,λ_=>⟨t5,t6,(by unfold k8;rw[D];try rfl),U,O⟩⟩,rfl⟩
 ·by_cases h0:0<e.2.2
  ·have D:rgtN (true) ln e=([]:List Nat):=by unfold rgtN;rw[c_ ⟨rfl,h0⟩]
   have A:IntKind.i64.wrap (((([]:List Nat)).length:Int)+(e.2.2:Int))=(((([]:List Nat)).length+e.2.2:Nat):Int):=by rw[w64 (by first|omega|(simp only[fb];omega)) (by first|omega|(simp only[fb];omega))];first|omega|(simp only[fb];omega)
   have d2:decide ((64:Int)<(((([]:List Nat)).length+e.2.2:Nat):Int))=decide (64<(([]:List Nat)).length+e.2.2):=gM.2 (by omega);by_cases h1:64<ln.1.length+e.2.1
   ·have ht:tooN (true) ln e=true:=by unfold tooN;rw[dEt h1];rfl
    simp only[go_sem,zE,zA,zL,reduceCtorEq,E,d0,dEt h0,fits,gN,G,d1,dEt h1];intros;exact dw ⟨⟨_,_,_,_,by rw[ht];rfl,λh=>by rw[ht] at h;cases h⟩,rfl⟩
   ·by_cases h2:64<(([]:List Nat)).length+e.2.2
    ·have ht:tooN (true) ln e=true:=by unfold tooN;rw[D,dEt h2,Bool.or_true]
     try simp only[fb] at A d2
     simp only[go_sem,zE,zA,zL,reduceCtorEq,E,d0,dEt h0,fits,gN,G,d1,dEf h1,A,dEt (show (64:Int)<(e.2.2:Int) by simp at h2;omega)];intros;exact dw ⟨⟨_,_,_,_,by rw[ht];rfl,λh=>by rw[ht] at h;cases h⟩,rfl⟩
    ·have ht:tooN (true) ln e=false:=by unfold tooN;rw[D,dEf h1,dEf h2];rfl
     try simp only[fb] at A d2
     simp only[go_sem,zE,zA,zL,reduceCtorEq,E,d0,dEt h0,fits,gN,G,d1,dEf h1,A,dEf (show ¬ (64:Int)<(e.2.2:Int) by simp at h2;omega)];intros;refine (J _).mono ?_;rintro _ st ⟨⟨t5,rfl,U⟩,rfl⟩;simp only[go_sem,zE,zA];refine (hj (([]:List Nat)) ⟨true,.nil,0⟩ (by first|exact e2|exact .inl rfl) (by first|omega|(simp only[fb];omega)) _).mono ?_;rintro _ st ⟨⟨t6,rfl,O⟩,rfl⟩;simp only[go_sem,zE,zA,zL,fits];exact dw ⟨⟨_,_,_,_,by rw[ht];rfl,λ_=>⟨t5,t6,(by unfold k8;rw[D];try rfl),U,O⟩⟩,rfl⟩
  ·have D:rgtN (true) ln e=ln.2:=by unfold rgtN;rw[a_ λh=>h0 h.2]
   have A:IntKind.i64.wrap (((ln.2).length:Int)+(e.2.2:Int))=(((ln.2).length+e.2.2:Nat):Int):=by rw[w64 (by first|omega|(simp only[fb];omega)) (by first|omega|(simp only[fb];omega))];first|omega|(simp only[fb];omega)
   have d2:decide ((64:Int)<(((ln.2).length+e.2.2:Nat):Int))=decide (64<(ln.2).length+e.2.2):=gM.2 (by omega);by_cases h1:64<ln.1.length+e.2.1
   ·have ht:tooN (true) ln e=true:=by unfold tooN;rw[dEt h1];rfl
    simp only[go_sem,zE,zA,zL,reduceCtorEq,E,d0,dEf h0,fits,gN,G,d1,dEt h1];intros;exact dw ⟨⟨_,_,_,_,by rw[ht];rfl,λh=>by rw[ht] at h;cases h⟩,rfl⟩
   ·by_cases h2:64<(ln.2).length+e.2.2
    ·have ht:tooN (true) ln e=true:=by unfold tooN;rw[D,dEt h2,Bool.or_true]
     try simp only[fb] at A d2
     simp only[go_sem,zE,zA,zL,reduceCtorEq,E,d0,dEf h0,fits,gN,G,d1,dEf h1,A,dEt h2,d2];intros;exact dw ⟨⟨_,_,_,_,by rw[ht];rfl,λh=>by rw[ht] at h;cases h⟩,rfl⟩
    ·have ht:tooN (true) ln e=false:=by unfold tooN;rw[D,dEf h1,dEf h2];rfl
     try simp only[fb] at A d2
     simp only[go_sem,zE,zA,reduceCtorEq,E,d0,dEf h0,fits,gN,G,d1,dEf h1,A,dEf h2,d2];intros;refine (J _).mono ?_;rintro _ st ⟨⟨t5,rfl,U⟩,rfl⟩;simp only[go_sem,zE,zA];refine (hj (ln.2) t2 (by first|exact e2|exact .inl rfl) (by first|omega|(simp only[fb];omega)) _).mono ?_;rintro _ st ⟨⟨t6,rfl,O⟩,rfl⟩;simp only[go_sem,zE,zA,zL,fits];exact dw ⟨⟨_,_,_,_,by rw[ht];rfl,λ_=>⟨t5,t6,(by unfold k8;rw[D];try rfl),U,O⟩⟩,rfl⟩
def plcs (ln:Ln):List (Nat×Bool):=(ln.1.map λi=>(i,false))++ln.2.map λi=>(i,true)
abbrev plcI (p:Nat×Bool):IV:=.agg [.raw (.int .i64 (p.1:Int)),.raw (.bool p.2)]
def plX (ln:Ln):Nat->List IV->Prop:=λk a=>∃p,(plcs ln)[k]?=some p/\a=[plcI p]
def uR (ln:Ln):(plcs ln).length=ln.1.length+ln.2.length:=by simp[plcs]
def HJ (ln:Ln)(x:IV)(A:IsLn ln x)(st:ISt):ICall prog gl 114 [x] st (λr st'=>r=.fn (.func 148) [] [.cptr x]/\st'=st):=by
 obtain⟨t1,t2,rfl,E,D⟩:=A;refine ICall.intro (c:=cf prog gl [] [] [1]) func114 rfl (by show _<=4;simp) (by kernel_rfl) ?_;simp only[go_sem,zE];exact dw ⟨rfl,rfl⟩
def HK (ln:Ln)(x:IV)(hx:IsLn ln x)(hl:ln.1.length<=1000000/\ln.2.length<=1000000)(I:Nat->ISt->Prop):IterC prog gl 148 [] [.cptr x] (plX ln) (plcs ln).length I:=by
 obtain⟨t1,t2,rfl,e1,e2⟩:=hx;rintro y I' S' st ⟨f,O,ca,rfl,ab,E⟩ _ U h0;change ICall prog gl _ [.fn f O ca,_] st _;refine iI func148 ?_;simp only[go_sem,fits,gN];intros;refine dC ln.1.length (λk fr st' ds=>I' k st'/\fr 0=.iv (.fn f O ca)/\fr 1=.iv (.cptr (.agg [.sl t1 (eJ ln.1),.sl t2 (eJ ln.2)]))/\fr 8=.iv (.sl t1 (eJ ln.1))/\fr 9=.iv (.raw (.int .i64 ln.1.length))/\fr 10=(k:Int)/\ds=[]) ?_ ?_ ?_
 ·simp only[go_sem,zE,reduceCtorEq];exact⟨h0,rfl⟩
 ·rintro k fr st _ A ⟨G,f0,f1,f8,f9,f10,rfl⟩;obtain⟨n,J⟩:=ed A;have D:=U k [plcI (n,false)] st ⟨(n,false),by unfold plcs;rw[gw (by simpa using A),fH,J];rfl,rfl⟩ G;simp only[go_sem,zE,zA,zL,reduceCtorEq,f0,f8,f9,f10,lt_i A,ec e1,iNn,lN J,fits];refine mI E (D.mono ?_);rintro _ st (⟨rfl,h⟩|⟨rfl,h⟩)
  ·simp only[go_sem,zE,reduceCtorEq,f0,f1,f8,f9,f10,ek A (by omega)];exact h
  ·simp only[go_sem];exact dw (.inr h)
 ·rintro fr st _ ⟨G,f0,f1,f8,f9,f10,rfl⟩;simp only[go_sem,zE,f1,f9,f10,eI (nLi _),gN];intro _;refine dC ln.2.length (λk fr st' ds=>I' (ln.1.length+k) st'/\fr 0=.iv (.fn f O ca)/\fr 21=.iv (.sl t2 (eJ ln.2))/\fr 22=.iv (.raw (.int .i64 ln.2.length))/\fr 23=(k:Int)/\ds=[]) ?_ ?_ ?_
  ·simp only[go_sem,zE,reduceCtorEq];exact⟨G,f0,rfl⟩
  ·rintro k fr st _ A ⟨G,f0,f21,f22,f23,rfl⟩;obtain⟨n,J⟩:=ed A;have D:=U (ln.1.length+k) [plcI (n,true)] st ⟨(n,true),by unfold plcs;rw[gD (by simp),eP,Nat.add_sub_cancel_left,fH,J];rfl,rfl⟩ G;simp only[go_sem,zE,zA,zL,reduceCtorEq,f0,f21,f22,f23,lt_i A,ec e2,iNn,lN J,fits];refine mI E (D.mono ?_);rintro _ st (⟨rfl,h⟩|⟨rfl,h⟩)
   ·simp only[go_sem,zE,reduceCtorEq,f0,f21,f22,f23,ek A (by omega)];exact h
   ·simp only[go_sem];exact dw (.inr h)
  ·rintro fr st _ ⟨G,f0,f21,f22,f23,rfl⟩;simp only[go_sem,f22,f23,eI (nLi _)];refine dw (.inl ?_);rw[uR];exact G
def HL (m:Nat)(w x:IV)(c:List IV)(D:w=.cptr (.agg c))(ln:Ln)(A:IsLn ln x)(st:ISt):ICall prog gl 95 [w,x] st (λr st'=>r=.fn (.func 120) [] [.cptr x,.cptr w]/\st'=st):=by
 obtain⟨t1,t2,rfl,G,E⟩:=A;subst D;refine ICall.intro (c:=cf prog gl [] [] [2,3]) func95 rfl (by show _<=6;simp) (by kernel_rfl) ?_;simp only[go_sem,zE];exact dw ⟨rfl,rfl⟩
def nanC (a:Int)(st:ISt):ICall prog gl 150 [a] st (λr st'=>r=false/\st'=st):=by
 refine iI func150 ?_;simp only[go_sem,zE,reduceCtorEq,d_];exact dw ⟨rfl,rfl⟩
def nanS (a:Int)(st:ISt):ICall prog gl 119 [a] st (λr st'=>r=false/\st'=st):=by
 refine iI func119 ?_;simp only[go_sem,zE,reduceCtorEq,d_];exact dw ⟨rfl,rfl⟩
def PG (a b:Int)(st:ISt):ICall prog gl 118 [a,b] st (λr st'=>r=(decide (a<b):Bool)/\st'=st):=by
 refine iI func118 ?_;simp only[go_sem,zA,reduceCtorEq];refine (nanC gl _ _).q ?_;simp only[go_sem,zE,reduceCtorEq];exact dw ⟨rfl,rfl⟩
def PH (l:List Nat)(tg:Tag)(aa:okEs tg 1)(hl:Inc l)(ab:l.length<=1099511627776)(n:Nat)(st:ISt) :
  ICall prog gl 94 [.sl tg (eJ l),(n:Int)] st
   (λr st'=>(∃(i:Nat),r=.tup [(i:Int),(decide (n∈l):Bool)])/\st'=st):=by
 have J:∀ {i k a b:Nat},l[i]?=some a->l[k]?=some b->i<k->a<b:=λD E aj=>by
  obtain⟨h1,h2⟩:=lGs D;obtain⟨h3,h4⟩:=lGs E;have:=List.pairwise_iff_getElem.1 hl _ _ h1 h3 aj
  rwa [h2,h4] at this
 have c1:=λn:Int=>nc prog 3 192 np vS .i64 n;have c2:=λn:Int=>nc prog 192 3 vS np .u64 n;refine iI func94 ?_;simp only[go_sem,zE,reduceCtorEq,gN];intro _;refine LoopC.dec l.length (λm fr st' ds=>(∃lo A,m=A-lo/\lo<=A/\A<=l.length/\(∀k a,k<lo->l[k]?=some a->a<n)/\(∀k a,A<=k->l[k]?=some a->¬ a<n)/\fr 7=(lo:Int)/\fr 8=(A:Int))/\fr 0=.iv (.sl tg (eJ l))/\fr 1=(n:Int) /\
  fr 6=.iv (.raw (.int .i64 l.length))/\st'=st/\ds=[]) ?_ ?_
 ·simp only[go_sem,zE,reduceCtorEq];refine⟨0,l.length,by omega,by omega,by omega,λk a U=>absurd U (by omega),λk a U D=>?_,rfl,rfl⟩;have:=(lGs D).1;omega
 ·rintro m fr ak _ ⟨⟨lo,A,hm,ai,ac,h1,h2,f7,f8⟩,f0,f1,f6,rfl,rfl⟩;by_cases ah:lo<A
  ·obtain⟨ag,af⟩:=Hr ai ac ab;obtain⟨a,D⟩:=ed (l:=l) (k:=(lo+A) / 2) (by omega);simp only[go_sem,zE,zA,reduceCtorEq,f0,f1,f7,f8,lt_i ah,c1,c2,show ((0:Int)<=1)=True from fU (by omega),Hq,ag,af,ec aa,iNn,lN D,fits];refine (PG gl _ _ _).q ?_;by_cases hc:a<n
   ·simp only[go_sem,zE,reduceCtorEq,f0,f1,f6,f8,dEt (show (a:Int)<n by omega),ek (show (lo+A) / 2<l.length by omega) (by omega)];refine⟨A-((lo+A) / 2+1),by omega,(lo+A) / 2+1,A,rfl,by omega,ac,λk b U E=>?_,h2,rfl,rfl⟩;rcases gO k ((lo+A) / 2) with h|h
    ·exact Nat.lt_trans (J E D h) hc
    ·obtain rfl:k=(lo+A) / 2:=by omega
     rw[D] at E;cases E;exact hc
   ·simp only[go_sem,zE,reduceCtorEq,f0,f1,f6,f7,dEf (show ¬ (a:Int)<n by omega)];refine⟨(lo+A) / 2-lo,by omega,lo,(lo+A) / 2,rfl,by omega,by omega,h1,λk b U E=>?_,rfl,rfl⟩;rcases gO ((lo+A) / 2) k with h|h
    ·have:=J D E h;omega
    ·obtain rfl:k=(lo+A) / 2:=by omega
     rw[D] at E;cases E;exact hc
  ·obtain rfl:lo=A:=by omega
   have G:n∈l↔l[lo]?=some n:=⟨λh=>by
    obtain⟨k,U⟩:=mq.1 h;rcases Nat.lt_trichotomy k lo with h|h|h
    ·exact absurd (h1 k n h U) (nLi _)
    ·rwa [<- h]
    ·obtain⟨b,E⟩:=ed (l:=l) (k:=lo) (by have:=(lGs U).1;omega);exact absurd (J E U h) (h2 lo b (eu _) E),lMg⟩
   by_cases O:lo<l.length
   ·obtain⟨a,D⟩:=ed O;by_cases hc:a=n
    ·subst hc;have hd:decide (a∈l)=true:=dEt (G.2 D);rw[hd];simp only[go_sem,zE,reduceCtorEq,f0,f1,f6,f7,f8,eI (nLi _),lt_i O,ec aa,iNn,lN D,fits,d_];exact dw ⟨⟨lo,rfl⟩,rfl⟩
    ·have hd:decide (n∈l)=false:=dEf λh=>by
      rw[G,D] at h;cases h;exact hc rfl
     rw[hd];simp only[go_sem,zE,zA,reduceCtorEq,f0,f1,f6,f7,f8,eI (nLi _),lt_i O,ec aa,iNn,lN D,fits,dEf (show ¬ (a:Int)=n by omega)];refine (nanS gl _ _).q ?_;simp only[go_sem,zE];exact dw ⟨⟨lo,rfl⟩,rfl⟩
   ·have hd:decide (n∈l)=false:=dEf λh=>by
     rw[G] at h;exact O (lGs h).1
    rw[hd];simp only[go_sem,zE,f6,f7,f8,eI (nLi _),eI O];exact dw ⟨⟨lo,rfl⟩,rfl⟩
def axW (W:List Fm)(ln:Ln):Option (Nat×Fm):=match ln.1.find? (λi=>decide (i∈ln.2)) with
 | some i=>some (1,(W[i]?).getD fm0)
 | none=>if (ln.1.any λi=>mU ((W[i]?).getD fm0))=true then some (2,.mk 2 noN [] []) else none
def BK {W:List Fm}{ln:Ln}(h:Ix W ln.1):(axW W ln).isSome=true↔clN W ln:=by
 unfold axW clN;cases G:ln.1.find? (λi=>decide (i∈ln.2)) with
 | some i=>simp;exact .inl ⟨i,List.mem_of_find?_eq_some G,by simpa using List.find?_some G⟩
 | none =>
  have J:¬ ∃i∈ln.1,i∈ln.2:=λ⟨i,h1,h2⟩=>by
   have:=jY.1 G i h1;simp[h2] at this
  simp only[J,false_or];constructor
  ·intro h2;split at h2
   ·rename_i O;obtain⟨i,D,E⟩:=il.1 O;obtain⟨f,A⟩:=h.get D;exact⟨i,D,f,A,by rw[A] at E;exact E⟩
   ·cases h2
  ·rintro⟨i,D,f,A,E⟩;rw[c_ (il.2 ⟨i,D,by rw[A];exact E⟩)];rfl
def PI {p:Nat->Bool}{l:List Nat}{k a:Nat}(h:(l.take k).find? p=none)(A:l[k]?=some a):(p a=true->l.find? p=some a)/\(p a=false->(l.take (k+1)).find? p=none):=by
 refine⟨λhp=>?_,λhp=>?_⟩
 ·obtain⟨h1,h2⟩:=lGs A;rw[<- fh k l,iO,h,gB h1,h2];simp[hp]
 ·rw[en A,iO,h];simp[hp]
def HM (f:Fm):mU f=decide (f.op=2):=by cases f;rfl
def BL (ca m:Nat)(W:List Fm)(hS:SpOk ca W)(tw:Tag)(xw:List IV)(ae:okEs tw 4)(ai:IsFms W xw)(ln:Ln)(E:LnOk W ln)(x:IV)(hx:IsLn ln x)(st:ISt) :
  ICall prog gl 68 [spI ca tw xw m,x] st (λr st'=>(∃z,r=.tup [.raw (.int .u8 (((axW W ln).getD (0,fm0)).1:Int)),z,.raw (.bool (axW W ln).isSome)]/\IsFm ((axW W ln).getD (0,fm0)).2 z)/\st'=st):=by
 obtain⟨t1,t2,rfl,e1,e2⟩:=hx;have aD:=pz E.1.1 E.1.2;have aC:=pz E.2.1 E.2.2;have aE:=hS.len;have am:=λn st=>PH gl ln.2 t2 e2 E.2.1 (by omega) n st;refine iI func68 ?_;simp only[go_sem,zE,gN];intro _;refine dC ln.1.length (λk fr st' ds=>(ln.1.take k).find? (λi=>decide (i∈ln.2))=none/\fr 0=(spI ca tw xw m)/\fr 3=.box [.sl t1 (eJ ln.1),.sl t2 (eJ ln.2)]/\(∃c,fr 5=.box c/\c.length=4) /\
  fr 14=.iv (.sl t1 (eJ ln.1))/\fr 15=ln.1.length/\fr 16=(k:Int)/\st'=st/\ds=[]) ?_ ?_ ?_
 ·simp only[go_sem,zE,reduceCtorEq];exact⟨rfl,⟨_,rfl,rfl⟩,rfl⟩
 ·rintro k fr af _ D ⟨G,f0,f3,⟨c5,f5,A⟩,f14,f15,f16,rfl,rfl⟩;obtain⟨a,ha⟩:=ed D;obtain⟨g,hg⟩:=E.1.get (lMg ha);have ak:=(lGs hg).1;obtain⟨q1,q2⟩:=PI G ha;simp only[go_sem,zE,zA,f3,f14,f15,f16,lt_i D,ec e1,iNn,lN ha,fits];refine (am a _).mono ?_;rintro _ st ⟨⟨i,rfl⟩,rfl⟩;by_cases aa:a∈ln.2
  ·have J:axW W ln=some (1,g):=by unfold axW;rw[q1 (dEt aa)];simp[hg]
   obtain⟨y,U,hy⟩:=ai.get hg;have al:=λst=>ow gl g y hy (by have:=hS.size (lMg hg);omega) st;obtain⟨y1,y2,y3,y4,y5,y6,rfl⟩:=hy.agg;simp only[go_sem,zE,zB,zA,reduceCtorEq,f0,dEt aa,fits,U,ec ae,iNn];refine (al _).mono ?_;rintro z _ ⟨hz,rfl⟩;have ag:=hz.1;obtain⟨z1,z2,z3,z4,z5,z6,rfl⟩:=ag.agg;simp only[go_sem,zE,zA,zL,f5,A];rw[J];refine dw ⟨⟨_,rfl,?_⟩,rfl⟩;exact ag
  ·simp only[go_sem,zE,reduceCtorEq,f0,f3,f5,f14,f15,f16,dEf aa,ek D (by omega)];exact⟨q2 (dEf aa),_,rfl,A⟩
 ·rintro fr af _ ⟨G,f0,f3,⟨c5,f5,A⟩,f14,f15,f16,rfl,rfl⟩;rw[lTl] at G;simp only[go_sem,zE,f3,f15,f16,eI (nLi _),gN];intro _;refine dC ln.1.length (λk fr st' ds=>((ln.1.take k).any λi=>mU ((W[i]?).getD fm0))=false/\fr 0=(spI ca tw xw m)/\(∃c,fr 5=.box c/\c.length=4) /\
   fr 38=.iv (.sl t1 (eJ ln.1))/\fr 39=ln.1.length/\fr 40=(k:Int)/\st'=af/\ds=[]) ?_ ?_ ?_
  ·simp only[go_sem,zE,reduceCtorEq];exact⟨rfl,f0,⟨_,f5,A⟩,rfl⟩
  ·rintro k fr st _ D ⟨O,f0,⟨c5,f5,A⟩,f38,f39,f40,rfl,rfl⟩;obtain⟨a,ha⟩:=ed D;obtain⟨g,hg⟩:=E.1.get (lMg ha);have ak:=(lGs hg).1;obtain⟨y,U,hy⟩:=ai.get hg;obtain⟨y1,y2,y3,y4,y5,y6,rfl⟩:=hy.agg;obtain rfl:y1=g.op:=HC hy;have aj:(ln.1.take (k+1)).any (λi=>mU ((W[i]?).getD fm0))=decide (g.op=2):=by
    rw[en ha,List.any_append,O,List.any_cons,List.any_nil,hg,<- HM g];simp
   by_cases h2:g.op=2
   ·have J:axW W ln=some (2,.mk 2 noN [] []):=by
     unfold axW;rw[G];simp only;rw[c_ (il.2 ⟨a,lMg ha,by rw[hg];simp[HM,h2]⟩)]
    simp only[go_sem,zE,zA,zL,reduceCtorEq,f0,f5,f38,f39,f40,lt_i D,ec e1,iNn,lN ha,fits,U,ec ae,dEt (show (g.op:Int)=2 by omega),A];rw[J];refine dw ⟨⟨_,rfl,?_⟩,rfl⟩;simp only[IsFm,fz];exact⟨_,_,_,_,rfl,by omega,.inl rfl,by simp only[IsTms],.inl rfl,by simp only[IsFms]⟩
   ·simp only[go_sem,zE,reduceCtorEq,f0,f5,f38,f39,f40,lt_i D,ec e1,iNn,lN ha,fits,U,ec ae,dEf (show ¬ (g.op:Int)=2 by omega),ek D (by omega)];exact⟨by rw[aj];exact dEf h2,_,rfl,A⟩
  ·rintro fr st _ ⟨O,f0,⟨c5,f5,A⟩,f38,f39,f40,rfl,rfl⟩;rw[lTl] at O;have J:axW W ln=none:=by
    unfold axW;rw[G];simp only;rw[a_ (by rw[O];simp)]
   simp only[go_sem,zE,zA,zL,f5,f39,f40,eI (nLi _),A];rw[J];refine dw ⟨⟨_,rfl,?_⟩,rfl⟩;simp only[IsFm,gh,fm0];exact⟨_,_,_,_,rfl,by omega,.inl rfl,by simp only[IsTms],.inl rfl,by simp only[IsFms]⟩
def b3 (p:Nat×Bool):List UInt8:=[UInt8.ofNat (p.1 / 65536),UInt8.ofNat (p.1 / 256),UInt8.ofNat p.1]
def keyL (ln:Ln):List UInt8:=(plcs ln).flatMap b3++[UInt8.ofNat ln.1.length]
def keyB (ln:Ln):ByteArray:=⟨(keyL ln).toArray⟩
def byI (l:List UInt8):List IV:=l.map λu=>.raw (.int .u8 (u.toNat:Int))
def HN:∀l:List UInt8,lU (byI l)=some l
 | []=>rfl
 | u::l=>by
  show lU (.raw (.int .u8 (u.toNat:Int))::byI l)=_;rw[JO,HN l];rfl
def kw (k:Nat):IntKind.u8.wrap ((k:Nat):Int)=((UInt8.ofNat k).toNat:Int):=by
 simp[IntKind.wrap,IntKind.bits,IntKind.signed]
def ks8 (k:Nat):Int.fdiv (k:Int) (2 ^ min (Int.toNat 8) 64)=((k / 256:Nat):Int):=by
 rw[show (2:Int) ^ min (Int.toNat 8) 64=((256:Nat):Int) from rfl];exact (Int.ofNat_fdiv k 256).symm
def ks16 (k:Nat):Int.fdiv (k:Int) (2 ^ min (Int.toNat 16) 64)=((k / 65536:Nat):Int):=by
 rw[show (2:Int) ^ min (Int.toNat 16) 64=((65536:Nat):Int) from rfl];exact (Int.ofNat_fdiv k 65536).symm
def PJ (a b c:Operand):mA 3 [(0,a),(1,b),(2,c)]=true:=rfl
def PL (ln:Ln)(x:IV)(O:IsLn ln x)(hl:ln.1.length<=1000000/\ln.2.length<=1000000)(st:ISt) :
  ICall prog gl 92 [x] st (λr st'=>r=(keyB ln:ByteArray)/\st'=st):=by
 have U:=λst=>HJ gl ln x O st;have hp1:=λI=>HK gl ln x O ⟨by omega,by omega⟩ I;obtain⟨t1,t2,rfl,e1,e2⟩:=O;have G:=λn:Int=>nc prog 3 5 np D9 .i64 n;refine ICall.intro (c:=cf prog gl [3] []) func92 rfl (by show _<=30;simp) (by kernel_rfl) ?_;simp only[go_sem,zE];refine λb=>fc λhb=>?_;refine (U _).q ?_;simp only[go_sem,reduceCtorEq];refine RangeC.intro (plX ln) (plcs ln).length (λk st'=>∃t,st' b=some (.box [.sl t (byI (((plcs ln).take k).flatMap b3))])/\own st' t (3*k) 1 st/\subSt st st') (λ_ _=>False) (by simp only[go_sem]) ?_ ⟨_,b_ _ _ _,own.nil _ _ _ _ _,gj hb⟩ ?_ (hp1 _) ?_ (λ_ _ _ h=>h.elim)
 ·rintro k a ⟨p,_,rfl⟩;rfl
 ·rintro k _ E ⟨⟨i,r⟩,hp,rfl⟩ ⟨t,h1,h2,h3⟩;simp only[go_sem,zE,zA,zM,zL,fits,h1,G,show ((0:Int)<=8)=True from fU (by omega),show ((0:Int)<=16)=True from fU (by omega),ks8,ks16,kw,PJ];have an:k<ln.1.length+ln.2.length:=by rw[<- uR];exact (lGs hp).1
  have A:(byI (((plcs ln).take k).flatMap b3)).length=3*k:=by
   rw[byI,eP];have:∀l:List (Nat×Bool),(l.flatMap b3).length=3*l.length:=λl=>by
    induction l with
    | nil=>rfl
    | cons a l J=>rw[fE,lLa,J,fa];show 3+_=_;omega
   rw[this,eO,uR];omega
  refine FJ (m:=3) h2 A rfl h3 rfl (by simp[fits,IV.one]) (by simp only;omega) (by omega) λt' D h4 h5 h6=>?_;have h7:D b=some (.box [.sl t (byI (((plcs ln).take k).flatMap b3))]):=h6 b _ h1 λn h=>by cases h
  simp only[go_sem,zE,zL,h7];refine⟨t',?_,?_,fM h5 hb⟩
  ·rw[en hp,kx];simp only[byI,fS];rfl
  ·rw[show 3*(k+1)=3*k+3 by omega];exact h4.mono λg hg _=>by
    rw[dZ λh=>by rw[h,h7] at hg;cases hg];exact hg
 ·rintro E rr ⟨t,h1,h2,h3⟩;rw[lTl] at h1;simp only[go_sem,zE,zA,zM,zL,h1,fits,gN,G,kw,fg];intro _;have A:(byI ((plcs ln).flatMap b3)).length=3*(plcs ln).length:=by
   rw[byI,eP];have:∀l:List (Nat×Bool),(l.flatMap b3).length=3*l.length:=λl=>by
    induction l with
    | nil=>rfl
    | cons a l J=>rw[fE,lLa,J,fa];show 3+_=_;omega
   exact this _
  have am:=uR ln;refine FJ (m:=1) h2 A rfl h3 rfl (by simp[fits,IV.one]) (by simp only;omega) (by omega) λt' D h4 h5 h6=>?_;have ac:lU (byI ((plcs ln).flatMap b3)++[.raw (.int .u8 ((UInt8.ofNat ln.1.length).toNat:Int))])=some (keyL ln):=by
   have:=HN (keyL ln)
   rwa [keyL,byI,fS] at this
  have aa:¬ keyL ln=[]:=by unfold keyL;simp
  have al:(keyL ln).toArray.size<=281474976710656:=by
   unfold keyL;rw[List.size_toArray,lLa];rw[byI,eP] at A;rw[A];simp only[fa,fb];omega
  simp only[go_sem,ac,aa,Option.bind_some];exact fN h5 ⟨rfl,rfl⟩
def PM {a b:Ln}(ha:(∀i∈a.1,i<16777216)/\∀i∈a.2,i<16777216)(hb:(∀i∈b.1,i<16777216)/\∀i∈b.2,i<16777216)(hl:a.1.length<256/\b.1.length<256)(h:keyB a=keyB b):a=b:=by
 have h1:keyL a=keyL b:=by
  have:=eZ (λx:ByteArray=>x.data.toList) h;simpa[keyB] using this
 unfold keyL at h1;have h2:=List.append_inj_left' h1 rfl;have h3:=List.append_inj_right' h1 rfl;have A:∀n,n<16777216->(UInt8.ofNat (n / 65536)).toNat*65536+(UInt8.ofNat (n / 256)).toNat*256+(UInt8.ofNat n).toNat=n:=λn hn=>by
  simp only[j5];omega
 have key:∀(l m:List (Nat×Bool)),(∀p∈l,p.1<16777216)->(∀p∈m,p.1<16777216)->l.flatMap b3=m.flatMap b3->l.map (·.1)=m.map (·.1):=λl=>by
  induction l with
  | nil =>
   intro m _ _ h;cases m with
   | nil=>rfl
   | cons p m=>simp[b3] at h
  | cons p l ih =>
   intro m hl E h;cases m with
   | nil=>simp[b3] at h
   | cons q m =>
    rw[fE,fE] at h;simp only[b3,fq,f_,List.cons.injEq] at h;obtain⟨e1,e2,e3,h⟩:=h;have U:=A p.1 (hl p (.head _));have n2:=A q.1 (E q (.head _));rw[e1,e2,e3,n2] at U;rw[ff,ff,ih m (λx G=>hl x (.tail _ G)) (λx G=>E x (.tail _ G)) h,U]
 have D:∀c:Ln,(∀i∈c.1,i<16777216)/\(∀i∈c.2,i<16777216)->∀p∈plcs c,p.1<16777216:=λc hc p hp=>by
  rcases eQ.1 hp with hp|hp
  ·obtain⟨i,J,rfl⟩:=eh.1 hp;exact hc.1 i J
  ·obtain⟨i,J,rfl⟩:=eh.1 hp;exact hc.2 i J
 have O:=key (plcs a) (plcs b) (D a ha) (D b hb) h2;have E:∀c:Ln,(plcs c).map (·.1)=c.1++c.2:=λc=>by simp[plcs,Function.comp_def]
 rw[E,E] at O;have h5:a.1.length=b.1.length:=by
  have:=eZ UInt8.toNat (List.cons.inj h3).1;simp only[j5] at this;omega
 exact Prod.ext (List.append_inj_left O h5) (List.append_inj_right O h5)
end Go.Proofs.Tryz
namespace Go.Iv
open Go
def ICallV.sub {P:Program}{gl:Nat->Option IV}{f:IV}{args:List IV}{st A:ISt}{K:IV->ISt->Prop}(h:ICallV P gl f args A K)(hs:subSt A st):ICallV P gl f args st K:=by
 intro B X fv rs J hst O hv;obtain⟨E,D⟩:=J.sub (st:=A) (by rw[hst];exact hs);refine (h B { X with st:=A } fv rs E rfl (D.v O) ⟨hv.1,λi r c G hc=>D.v (hv.2 i r c G hc)⟩).mono λv w' U=>?_;obtain⟨X',x,h1,h2,h3,h4,h5⟩:=U;exact⟨X',x,h1,h2,D.trans h3,h4,h5⟩
def YieldL.none {P:Program}{gl:Nat->Option IV}{y:IV}{A:Nat->List IV->Prop}{I:Nat->ISt->Prop}{S:ISt->Prop}(h:YieldL P gl y (qR A) I S){k:Nat}{a:List IV}{stu:ISt}(D:A k a)(G:I k stu) :
  ICallV P gl y a stu λr st'=>(r=true/\I (k+1) st')\/(r=false/\S st') :=
 (h k a (λ_=>Option.none) stu ⟨D,rfl⟩ (λ_ J=>absurd rfl J) G).mono λr st' E=>E.imp (λ⟨h1,s1,h2,_,O⟩=>⟨h1,O▸h2⟩) id
end Go.Iv
namespace Go.Proofs.Tryz
open Go Go.Iv
set_option maxRecDepth 4000
variable (gl:Nat->Option IV)
abbrev Mv:=Nat×Nat×List Ln
def mvN (j:Bool)(ln:Ln)(i:Nat)(t:Tn):Option Mv:=if t.2.any (tooN j ln)=true then none else some (t.1,i,t.2.map (k8 j ln))
noncomputable def jU (W:List Fm)(j:Bool)(ln:Ln)(p:Nat×Bool):List (Option Mv):=match W[p.1]? with
 | some f=>(ij W j f p.2).map (mvN j ln p.1)
 | none=>[]
noncomputable def mvsN (W:List Fm)(j:Bool)(ln:Ln):List (Option Mv):=(plcs ln).flatMap (jU W j ln)
def cutO {α:Type}:List (Option α)->List (Option α)
 | []=>[]
 | none::_=>[none]
 | some a::l=>some a::cutO l
def xh {α:Type}:∀ {l m:List (Option α)},(∀o∈l,o≠none)->cutO (l++m)=l++cutO m
 | [],m,_=>rfl
 | none::l,m,h=>absurd rfl (h none (.head _))
 | some a::l,m,h=>by simp only[fq,cutO,xh λo A=>h o (.tail _ A)]
def PN {α:Type}{l:List (Option α)}(h:∀o∈l,o≠none):cutO l=l:=by
 have:=xh (m:=[]) h;simpa[cutO] using this
def PO {α:Type}{l m:List (Option α)}{o:Option α}(h:∀o∈l,o≠none):(cutO (l++o::m))[l.length]?=some o:=by
 rw[xh h,gD (eu _),gg];cases o<;>rfl
def PT {α:Type}{l m:List (Option α)}(h:∀o∈l,o≠none):(cutO (l++none::m)).length=l.length+1:=by
 rw[xh h,lLa];rfl
def IsMv (v:Mv)(x:IV):Prop:=∃t ys,x=.agg [.raw (.int .u8 (v.1:Int)),(v.2.1:Int),.sl t ys]/\okEs t 2/\AllR IsLn v.2.2 ys
def mvA:Option Mv->List IV->Prop
 | some v,a=>∃x,a=[x,.raw (.int .i64 0)]/\IsMv v x
 | none,a=>a=[.agg [.raw (.int .u8 0),(0:Int),()],.raw (.int .i64 5)]
noncomputable def mvX (W:List Fm)(j:Bool)(ln:Ln):Nat->List IV->Prop:=λk a=>∃o,(cutO (mvsN W j ln))[k]?=some o/\mvA o a
def SpSt (ca m:Nat)(W:List Fm)(st:ISt):Prop:=∃es,st m=some (.map .pl es)/\CacheOk ca W es
def SpUp (ca m:Nat)(W:List Fm):Nat->List (Value×IV)->List (Value×IV)->Prop:=λD es A=>D=m/\(CacheOk ca W es->CacheOk ca W A)
def sc (W:List Fm)(l:List Fm):(mV W l).length<=l.length:=by
 have:=uO (l.map (noW W))
 rwa [eP] at this
def HO (G:Gl gl)(T:Gt gl)(ca m:Nat)(W:List Fm)(hS:SpOk ca W)(bs:W.length<=200000)(tw:Tag)(xw:List IV)(aZ:okEs tw 4)(aV:IsFms W xw)(ln:Ln)(A:LnOk W ln)(x:IV)(hx:IsLn ln x) :
  IterU prog gl 120 [] [.cptr x,.cptr (spI ca tw xw m)] (qR (mvX W (calJ ca) ln)) (cutO (mvsN W (calJ ca) ln)).length (λ_=>SpSt ca m W) (SpUp ca m W):=by
 have bn:=pz A.1.1 A.1.2;have bm:=pz A.2.1 A.2.2;have a7:=λst=>HJ gl ln x hx st;have hp1:=λI=>HK gl ln x hx ⟨by omega,by omega⟩ I;obtain⟨t1,t2,rfl,e1,e2⟩:=hx;rintro y I' S' st ⟨f,fi,aE,rfl,bo,ao⟩ hI aX hy h0;have a1:∀ {k stu},I' k stu->SpSt ca m W stu:=λ{k stu} h=>by
  obtain⟨s0,h1,es,h2,h3⟩:=hI k stu h;exact⟨es,h1 _ _ h2,h3⟩
 change ICall prog gl _ [.fn f fi aE,_,_] st _;refine ICall.intro (c:=cf prog gl [] [] [3]) func120 rfl (by show _<=59;simp) (by kernel_rfl) ?_;simp only[go_sem,zE,zA,fits];refine (a7 _).q ?_;simp only[go_sem,reduceCtorEq]
 let pre:Nat->List (Option Mv):=λk=>((plcs ln).take k).flatMap (jU W (calJ ca) ln)
 refine RangeC.intro (plX ln) (plcs ln).length (λk st'=>I' (pre k).length st'/\∀o∈pre k,o≠none) (λe st'=>e=.ret/\(S' st'\/I' (cutO (mvsN W (calJ ca) ln)).length st')) (by simp only[go_sem]) ?_ ⟨h0,λo J=>by cases J⟩ ?_ (hp1 _) ?_ ?_
 ·rintro k a ⟨p,_,rfl⟩;rfl
 ·rintro k _ af ⟨⟨i,r⟩,hp,rfl⟩ ⟨al,aj⟩;obtain⟨es,hm,bc⟩:=a1 al;have ba:i<W.length:=by
   have:=lMg hp;unfold plcs at this;rcases eQ.1 this with h|h
   ·obtain⟨i',aD,he⟩:=eh.1 h;cases he;exact A.1.2 _ aD
   ·obtain⟨i',aD,he⟩:=eh.1 h;cases he;exact A.2.2 _ aD
  obtain⟨g,hg⟩:=ed ba;have ax:=Py gl G T ca m W hS tw xw aZ aV i r g hg es bc af hm;simp only[go_sem,zE,zA,zL,fits];refine ax.mono ?_;rintro _ _ ⟨⟨t,ys,rfl,ht,hys⟩,be,aK,rfl⟩;have aI:=aX (pre k).length af m .pl es be al hm ⟨rfl,λ_=>aK⟩;have aL:jU W (calJ ca) ln (i,r)=(ij W (calJ ca) g r).map (mvN (calJ ca) ln i):=by unfold jU;rw[hg]
  have ai:∀q tt,(ij W (calJ ca) g r)[q]?=some tt->∃rest,mvsN W (calJ ca) ln=(pre k++((ij W (calJ ca) g r).take q).map (mvN (calJ ca) ln i))++mvN (calJ ca) ln i tt::rest:=λq tt hq=>by
   refine⟨((ij W (calJ ca) g r).drop (q+1)).map (mvN (calJ ca) ln i)++((plcs ln).drop (k+1)).flatMap (jU W (calJ ca) ln),?_⟩;have h1:plcs ln=(plcs ln).take k++(i,r)::(plcs ln).drop (k+1):=by
    obtain⟨h2,h3⟩:=lGs hp
    conv=>lhs;rw[<- fh k (plcs ln),gB h2,h3]
   have h4:ij W (calJ ca) g r=(ij W (calJ ca) g r).take q++tt::(ij W (calJ ca) g r).drop (q+1):=by
    obtain⟨h2,h3⟩:=lGs hq
    conv=>lhs;rw[<- fh q (ij W (calJ ca) g r),gB h2,h3]
   unfold mvsN
   conv=>lhs;rw[h1]
   rw[kx,fE,aL]
   conv=>lhs;rw[h4]
   simp only[fS,ff,fD,fq,pre]
  have bg:(ij W (calJ ca) g r).length<=1000:=by
   have:=wY (ca:=ca) (hS.pf (lMg hg)) r;unfold ij;rw[eP,<- eP (f:=(·.1)),this];unfold ke
   repeat' split
   all_goals simp
  simp only[go_sem];intro _;rw[hys.1];refine dC (ij W (calJ ca) g r).length (λq fr st' ds=>I' ((pre k).length+q) st'/\(∀o∈((ij W (calJ ca) g r).take q).map (mvN (calJ ca) ln i),o≠none)/\fr 1=.iv (.cptr (.agg [.sl t1 (eJ ln.1),.sl t2 (eJ ln.2)]))/\fr 2=.iv (.cptr (spI ca tw xw m))/\fr 3=.iv (.cptr (.fn f fi aE)) /\
   fr 4=.box [(i:Int),r]/\fr 17=.iv (.sl t ys)/\fr 18=.iv (.raw (.int .i64 (ij W (calJ ca) g r).length))/\fr 19=(q:Int)/\ds=[]) ?_ ?_ ?_
  ·simp only[go_sem,zE];exact⟨aI,λ_ h=>h.elim,rfl⟩
  ·rintro q fr av _ aC ⟨ak,ac,f1,f2,f3,f4,f17,f18,f19,rfl⟩;obtain⟨tt,ah⟩:=ed aC;obtain⟨rest,aa⟩:=ai q tt ah;obtain⟨z,aS,t3,zs,rfl,e3,hzs⟩:=hys.2 q tt ah;obtain⟨t0,aG,rfl⟩:=eh.1 (lMg ah);have aq:∀o∈pre k++((ij W (calJ ca) g r).take q).map (mvN (calJ ca) ln i),o≠none:=λo J=>(eQ.1 J).elim (aj o) (ac o);have aN:(pre k++((ij W (calJ ca) g r).take q).map (mvN (calJ ca) ln i)).length=(pre k).length+q:=by rw[lLa,eP,eO];omega
   have J:=PO (l:=pre k++((ij W (calJ ca) g r).take q).map (mvN (calJ ca) ln i)) (m:=rest) (o:=mvN (calJ ca) ln i (t0.1,t0.2.map (exW W))) aq;rw[<- aa,aN] at J;have hp2:=BF aG;have aA:=HB aG;simp only[go_sem,zE,zB,zA,zL,f4,f17,f18,f19,lt_i aC,ec ht,iNn,aS,fits];intro _;rw[hzs.1];refine dC (t0.2.map (exW W)).length (λv fr st' ds=>(∃t4 us,fr 7=.box [.raw (.int .u8 (t0.1:Int)),(i:Int),.sl t4 us]/\AllR IsLn (((t0.2.map (exW W)).take v).map (k8 (calJ ca) ln)) us/\own st' t4 v 2 av/\subSt av st')/\((t0.2.map (exW W)).take v).any (tooN (calJ ca) ln)=false /\
    fr 1=.iv (.cptr (.agg [.sl t1 (eJ ln.1),.sl t2 (eJ ln.2)]))/\fr 2=.iv (.cptr (spI ca tw xw m))/\fr 3=.iv (.cptr (.fn f fi aE)) /\
    fr 4=.box [(i:Int),r]/\fr 17=.iv (.sl t ys)/\fr 18=.iv (.raw (.int .i64 (ij W (calJ ca) g r).length))/\fr 19=(q:Int)/\fr 29=.iv (.sl t3 zs)/\fr 30=.iv (.raw (.int .i64 (t0.2.map (exW W)).length))/\fr 31=(v:Int)/\ds=[]) ?_ ?_ ?_
   ·simp only[go_sem,zE];exact⟨⟨_,_,rfl,AllR.nil,own.nil _ _ _ _ _,subSt.refl _⟩,rfl,f1,f2,f3,f4,f17,f18,f19,rfl⟩
   ·rintro v fr aF _ hv ⟨⟨t4,us,f7,O,ab,D⟩,E,f1,f2,f3,f4,f17,f18,f19,f29,f30,f31,rfl⟩;obtain⟨e,he⟩:=ed hv;obtain⟨ze,aT,aJ⟩:=hzs.2 v e he;obtain⟨p0,a8,rfl⟩:=eh.1 (lMg he);have br:=sc W p0.1;have bq:=sc W p0.2;have bp:=aA p0 a8;have az:=λst=>PE gl T ca m tw xw ln _ ⟨t1,t2,rfl,e1,e2⟩ (exW W p0) ze aJ ⟨by omega,by omega,by show (mV W p0.1).length<=_;omega,by show (mV W p0.2).length<=_;omega,by show p0.1.length<=_;omega,by show p0.2.length<=_;omega⟩ st;obtain⟨t5,t6,rfl,e5,e6⟩:=aJ;simp only[go_sem,zE,zB,zA,zL,f1,f2,f29,f30,f31,lt_i hv,ec e3,iNn,aT,fits];refine (az _).mono ?_;rintro _ aF ⟨⟨b1,b2,b3,b4,rfl,aU⟩,rfl⟩;cases U:tooN (calJ ca) ln (exW W p0) with
    | true =>
     have ae:mvN (calJ ca) ln i (t0.1,t0.2.map (exW W))=none:=by
      unfold mvN;rw[c_ (il.2 ⟨_,lMg he,U⟩)]
     rw[ae] at J;have an:=PT (m:=rest) aq;rw[<- ae,<- aa,aN] at an;have aw:=hy.none (k:=(pre k).length+q) (a:=[.agg [.raw (.int .u8 0),(0:Int),()],(5:Int)]) ⟨none,J,rfl⟩ ak;simp only[go_sem,zE,zA,zL,f3,fits];refine mI ao ((aw.sub D).mono ?_);rintro _ st4 (⟨rfl,h⟩|⟨rfl,h⟩)
     ·simp only[go_sem];exact .inr (an▸h)
     ·simp only[go_sem];exact .inl h
    | false =>
     have A:=aU U;simp only[go_sem,zE,zA,zM,zL,f7,fits,fg];have aY:us.length=v:=by rw[O.1,eP,eO];omega
     refine je ab aY D rfl (by simp[fits,IV.one]) (by simp only;rw[eP] at hv;omega) (by rw[eP] at hv;omega) λaQ st4 aB ay _=>?_;simp only[go_sem,zE,zA,zL,f1,f2,f3,f4,f7,f17,f18,f19,f29,f30,f31,ek hv (by rw[eP];omega)];refine⟨⟨aQ,_,rfl,?_,aB,ay⟩,?_⟩
     ·rw[en he,fS];exact O.snoc A
     ·rw[en he,List.any_append,E];simp[U]
   ·rintro fr aF _ ⟨⟨t4,us,f7,O,ab,D⟩,E,f1,f2,f3,f4,f17,f18,f19,f29,f30,f31,rfl⟩;rw[lTl] at O E;have ae:mvN (calJ ca) ln i (t0.1,t0.2.map (exW W))=some (t0.1,i,(t0.2.map (exW W)).map (k8 (calJ ca) ln)):=by
     unfold mvN;rw[a_ (by rw[E];simp)]
    have aw:=hy.none (k:=(pre k).length+q) (a:=[.agg [.raw (.int .u8 (t0.1:Int)),(i:Int),.sl t4 us],(0:Int)]) ⟨_,J,by rw[ae];exact⟨_,rfl,t4,us,rfl,ab.es,O⟩⟩ ak;simp only[go_sem,zE,zA,zL,f3,f7,f30,f31,eI (nLi _),fits];refine mI ao ((aw.sub D).mono ?_);rintro _ st4 (⟨rfl,h⟩|⟨rfl,h⟩)
    ·simp only[go_sem,zE,f1,f2,f3,f4,f17,f18,f19,ek aC (by omega)];refine⟨h,λo aH=>?_⟩;rw[en ah,fS] at aH;rcases eQ.1 aH with h1|h1
     ·exact ac o h1
     ·rw[eY.1 h1];show mvN (calJ ca) ln i (t0.1,t0.2.map (exW W))≠none;rw[ae];simp
    ·simp only[go_sem];exact .inl h
  ·rintro fr av _ ⟨ak,ac,f1,f2,f3,f4,f17,f18,f19,rfl⟩;rw[lTl] at ac;have a6:pre (k+1)=pre k++(ij W (calJ ca) g r).map (mvN (calJ ca) ln i):=by
    simp only[pre];rw[en hp,kx,fE,List.flatMap_nil,fL,aL]
   simp only[go_sem,f18,f19,eI (nLi _)];rw[a6];refine⟨by rw[lLa,eP];exact ak,λo J=>(eQ.1 J).elim (aj o) (ac o)⟩
 ·rintro af rr ⟨al,aj⟩;have aM:cutO (mvsN W (calJ ca) ln)=mvsN W (calJ ca) ln:=PN λo J=>aj o (by simp only[pre];rw[lTl];exact J);have aA:(pre (plcs ln).length).length=(mvsN W (calJ ca) ln).length:=by simp only[pre];rw[lTl];rfl
  simp only[go_sem];refine dw (.inl ?_);rw[aM,<- aA];exact al
 ·rintro e af rr ⟨rfl,h⟩;simp only[go_sem];exact dw h.symm
