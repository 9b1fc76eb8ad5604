/- Walks: Moves. -/
import Derived.Test.YtakbihknkdpmgaaGreatDoorQE
set_option linter.all false
open Nat renaming reduceEqDiff → zE,reduceBEq → zB,reduceAdd → zA,reduceMul → zM,reduceLeDiff → zL
namespace Go.Proofs.Tryz
open Go Go.Iv
set_option maxRecDepth 4000
variable (gl:Nat->Option IV)
def gT (v:Nat×Fm×List Sn)(x:IV):Prop:=∃o n t1 E t2 D t3 A,x=.agg [.raw (.int .u8 (v.1:Int)),.raw (.int .u8 o),.raw (.string n),.sl t1 E,.sl t2 D,.sl t3 A]/\IsFm v.2.1 (.agg [.raw (.int .u8 o),.raw (.string n),.sl t1 E,.sl t2 D])/\okEs t3 2/\AllR (λp y=>IsSq ⟨p.1,p.2⟩ y) v.2.2 A
def Pe (G:Gl gl)(T:Gt gl)(ca:Nat)(s:Sq)(x:IV)(hx:IsSq s x)(hs:fW s)(st:ISt):ICall prog gl 92 [.raw (.int .u8 (ca:Int)),x] st (λr st'=>st'=st /\
  ((¬ (ca=1\/ca=2)/\r=.tup [(),(2:Int)])\/((ca=1\/ca=2)/\ev ca s=false/\r=.tup [(),(190:Int)]) \/
   ((ca=1\/ca=2)/\ev ca s=true/\((mX (calJ ca) (nf (s.l,s.r))/\r=.tup [(),(5:Int)])\/(¬ mX (calJ ca) (nf (s.l,s.r))/\∃t ys,okEs t 6/\AllR gT (mvF (calJ ca) (nf (s.l,s.r))) ys/\r=.tup [.sl t ys,(0:Int)]))))):=by
 have hb:=zP gl G ca s x hx hs;have bk:=hx;obtain⟨t1,x1,t2,x2,rfl,e1,i1,e2,i2⟩:=hx;refine j_ (t:=6) (n:=2) (c:=cf prog gl [4,5,6,8,38] [(10,[0,1,2,3,4,6,7,12,5,8,9,10,11,13])] [3]) func92 rfl (by show _<=66;simp) (by show _<66;simp) (by kernel_rfl) ?_;simp only[go_sem,zE,zA,reduceCtorEq,fits];refine λb4=>d_ λh4=>λb5=>d_ λh5=>?_;have A:b5≠b4:=λe=>by rw[e,b_] at h5;cases h5
 rw[dw A] at h5;have sub0:subSt st ((st.put b4 (some (.box [()]))).put b5 (some (.box [(0:Int)]))):=eA (ff h4) h5;refine (hb _).mono ?_;rintro _ aS (⟨hc,rfl,rfl⟩|⟨hc,hv,rfl,rfl⟩|⟨hc,hv,m,tw,xw,hm,E,O,rfl,rfl⟩)
 ·simp only[go_sem,zE,zL];refine λb6=>d_ λD=>?_;have n6:b6≠b5:=λe=>by rw[e,b_] at D;cases D
  rw[dw n6] at D;have bg:b6≠b4:=λe=>by rw[e,b_] at D;cases D
  refine⟨b6,.raw (.pointer none),by simp only[go_sem,zE],b_ ..,?_⟩;rw[nY (by rw[dw n6];exact D)];simp only[go_sem,zE,zL,show decide ((2:Int)=0)=false from rfl,dw A.symm,dw A];exact⟨st,eA (eA sub0 h4) h5,rfl,.inl ⟨hc,rfl⟩⟩
 ·simp only[go_sem,zE,zL];refine λb6=>d_ λD=>?_;have n6:b6≠b5:=λe=>by rw[e,b_] at D;cases D
  rw[dw n6] at D;have bg:b6≠b4:=λe=>by rw[e,b_] at D;cases D
  refine⟨b6,.raw (.pointer none),by simp only[go_sem,zE],b_ ..,?_⟩;rw[nY (by rw[dw n6];exact D)];simp only[go_sem,zE,zL,show decide ((190:Int)=0)=false from rfl,dw A.symm,dw A];exact⟨st,eA (eA sub0 h4) h5,rfl,.inr (.inl ⟨hc,hv,rfl⟩)⟩
 ·obtain⟨hS,_,aG,aE⟩:=qp hc hv;have bG:=zO hv;have U:=zo aE;have aX:=uU hS.srt aE;simp only[go_sem,zE,zL];refine λb6=>d_ λD=>?_;have bU:b6≠m:=λe=>by rw[e,b_] at D;cases D
  refine⟨b6,spI ca tw xw m,by simp only[go_sem,zE],b_ ..,?_⟩;rw[nY D,show age (spI ca tw xw m)=spI ca ⟨false,tw.cap,tw.es⟩ (ages xw) m by simp only[age,ages]];replace E:okEs ⟨false,tw.cap,tw.es⟩ 4:=E;replace O:=O.aged;generalize (⟨false,tw.cap,tw.es⟩:Tag)=tw at E ⊢;generalize ages xw=xw at O ⊢;simp only[go_sem,zE,zA,dA];refine λb8=>d_ λh8=>?_;refine (uW gl T ca m (spW s) tw xw E O hS.srt (dT aG (by omega)) s _ bk ⟨by omega,by omega⟩ aE _).mono ?_;rintro z aS ⟨hz,rfl⟩;have bq:=λst=>FZ gl m (spI ca tw xw m) z _ rfl _ hz st;have br:=F5 gl G T ca m _ hS aG tw xw E O _ U z hz;obtain⟨ta,tb,rfl,ea,eb⟩:=id hz;simp only[go_sem,zE,zA];refine (bq _).q ?_;simp only[go_sem,reduceCtorEq];have aZ:m≠b5:=λe=>by rw[e,b_] at hm;cases hm
  rw[dw aZ] at hm;have a1:m≠b4:=λe=>by rw[e,b_] at hm;cases hm
  rw[dw a1] at hm;have aH:b8≠m:=λe=>by rw[e,b_] at h8;cases h8
  rw[dw aH] at h8;have aI:b8≠b5:=λe=>by rw[e,b_] at h8;cases h8
  rw[dw aI] at h8;have aJ:b8≠b4:=λe=>by rw[e,b_] at h8;cases h8
  rw[dw aJ] at h8;generalize ak:((((st.put b4 (some (.box [()]))).put b5 (some (.box [(0:Int)]))).put m (some (.map .pl []))).put b8 (some (.box [()])))=sA;have aw:IsFms (setF (eZ (s.l++s.r))) xw:=O;generalize hW:setF (eZ (s.l++s.r))=W at *;generalize bF:lT W (s.l,s.r)=ln at *
  let EI:Nat->ISt->Prop:=λk s'=>∃(vs:List Mv) (t8:Tag) (ys:List IV),(cutO (mvsN W (calJ ca) ln)).take k=vs.map some/\AllR gT (vs.map (mvW W)) ys/\SpSt ca m W s'/\s' b4=some (.box [()])/\s' b5=some (.box [(0:Int)])/\s' b8=some (.box [.sl t8 ys])/\own s' t8 vs.length 6 st/\subSt st s'
  let ES:Exit->ISt->Prop:=λe s'=>e=.ret/\s' b4=some (.box [()])/\s' b5=some (.box [(5:Int)])/\none∈mvsN W (calJ ca) ln/\subSt st s'
  refine RangeU.intro (mvX W (calJ ca) ln) (cutO (mvsN W (calJ ca) ln)).length EI ES (SpUp ca m W) ?_ (by simp only[go_sem]) ?_ ?_ ?_ (br.of λk s ⟨_,_,_,_,_,h,_⟩=>h) ?_ ?_
  ·rintro k s' m' kk es bu ⟨vs,t8,ys,q1,q2,⟨aq,q3,bf⟩,q4,q5,q6,q7,q8⟩ a6 ⟨rfl,hu⟩;rw[q3] at a6;cases a6;have e4:b4≠m':=λe=>by rw[e,q3] at q4;cases q4
   have e5:b5≠m':=λe=>by rw[e,q3] at q5;cases q5
   have e8:b8≠m':=λe=>by rw[e,q3] at q6;cases q6
   exact⟨vs,t8,ys,q1,q2,⟨bu,b_ ..,hu bf⟩,by rw[dw e4];exact q4,by rw[dw e5];exact q5,by rw[dw e8];exact q6,q7.mono λg hg _=>(by rw[dw λe=>(by rw[e,q3] at hg;cases hg)];exact hg),eA q8 hm⟩
  ·rintro k a ⟨o,_,ho⟩;cases o with
   | none=>rw[show a=_ from ho];rfl
   | some v=>obtain⟨x,rfl,_⟩:=ho;rfl
  ·exact⟨[],⟨true,.nil,0⟩,[],rfl,AllR.nil,⟨[],by rw[<- ak,dw aH.symm,b_],λp hp=>by cases hp⟩,by rw[<- ak,dw aJ.symm,dw a1.symm,dw A.symm,b_],
    by rw[<- ak,dw aI.symm,dw aZ.symm,b_],by rw[<- ak,b_],own.nil ..,by rw[<- ak];exact eA (eA sub0 hm) h8⟩
  ·rintro k a s' ⟨o,ah,ho⟩ ⟨vs,t8,ys,q1,q2,q3,q4,q5,q6,q7,q8⟩;cases o with
   | none =>
    obtain rfl:a=_:=ho;have aD:none∈mvsN W (calJ ca) ln:=by
     have h1:∀l:List (Option Mv),none∈cutO l->none∈l:=λl=>by
      induction l with
      | nil=>exact id
      | cons a l ih =>
       cases a with
       | none=>exact λ_=>.head _
       | some a =>
        intro h;simp only[cutO] at h;rcases dN.1 h with h|h
        ·cases h
        ·exact .tail _ (ih h)
     exact h1 _ (lMg ah)
    simp only[go_sem,zE,zA,zL,show decide ((5:Int)=0)=false from rfl,q4,q5,dw A];exact⟨rfl,by rw[dw A.symm,b_],b_ ..,aD,eA (eA q8 h4) h5⟩
   | some v =>
    obtain⟨xv,rfl,tv,zv,rfl,bn,aB⟩:=ho;have bm:some v∈mvsN W (calJ ca) ln:=by
     have h1:∀l:List (Option Mv),some v∈cutO l->some v∈l:=λl=>by
      induction l with
      | nil=>exact id
      | cons a l ih =>
       cases a with
       | none=>intro h;simp[cutO] at h
       | some a =>
        intro h;simp only[cutO] at h;rcases dN.1 h with h|h
        ·rw[h];exact .head _
        ·exact .tail _ (ih h)
     exact h1 _ (lMg ah)
    obtain⟨g1,g2,g3,g4⟩:=ve hS U bm;obtain⟨f,hf⟩:=dB g1;obtain⟨z,hz,a7⟩:=aw.get hf;have bt:=λst=>mT gl f z a7 (dT (hS.size (lMg hf)) (by omega)) st;obtain⟨og,ng,ug,sg,rfl⟩:∃o n u s,f=.mk o n u s:=by cases f;exact⟨_,_,_,_,rfl⟩
    obtain⟨bP,bJ,bO,bI,rfl,bY⟩:=a7.mk;simp only[go_sem,zE,zB,zA,zL,fits,dA,dz E,iNn,hz,IV.one];refine (bt _).mono ?_;rintro r s2 ⟨hr,rfl⟩;obtain⟨o1,n1,t5,x5,t6,x6,rfl⟩:=gn hr;simp only[go_sem,zE,zA,zL,fits];intro _;refine dj zv.length (λq fr st' ds=>(∃t3 x3,fr 11=.box [.raw (.int .u8 (v.1:Int)),.raw (.int .u8 o1),n1,.sl t5 x5,.sl t6 x6,.sl t3 x3]/\AllR (λp y=>IsSq ⟨p.1,p.2⟩ y) ((v.2.2.take q).map (lnW W)) x3/\own st' t3 q 2 st/\SpSt ca m W st'/\st' b4=some (.box [()])/\st' b5=some (.box [(0:Int)]) /\
     st' b8=some (.box [.sl t8 ys])/\own st' t8 vs.length 6 st/\subSt st st')/\fr 6=.iv (.cptr (spI ca tw xw m))/\fr 46=.iv (.sl tv zv)/\fr 47=zv.length/\fr 48=(q:Int)/\fr 4=(ptr b4)/\fr 5=(ptr b5)/\fr 8=(ptr b8)/\ds=[]) ?_ ?_ ?_
    ·simp only[go_sem,zE];exact⟨⟨_,_,rfl,AllR.nil,own.nil ..,q3,q4,q5,q6,q7,q8⟩,rfl⟩
    ·rintro q fr s3 _ hq ⟨⟨t3,x3,f11,aj,J,q3,q4,q5,q6,q7,q8⟩,f6,f46,f47,f48,f4,f5,f8,rfl⟩;have aC:=aB.1;obtain⟨p,hp⟩:=dB (l:=v.2.2) (k:=q) (by rw[<- aC];exact hq);obtain⟨zq,bi,av⟩:=aB.2 q p hp;obtain⟨g5,g6⟩:=g4 p (lMg hp);have bo:=λst=>Pd gl ca m W hS tw xw E aw p g5 zq av st;obtain⟨bR,bQ,rfl,b9,b7⟩:=av;simp only[go_sem,zE,zB,zA,zL,f11,f6,f46,f47,f48,lt_i hq,dz bn,iNn,bi,fits,IV.one];refine (bo _).mono ?_;rintro _ s3 ⟨⟨t7,x7,t9,x9,rfl,e7,i7,e9,i9⟩,rfl⟩;have aV:x3.length=q:=by rw[aj.1,dY,dQ];omega
     simp only[go_sem,zE,zA,zM,zL,fits,dW];refine gQ J aV q8 rfl (by simp[fits,IV.one]) (by simp only;omega) (by omega) λbe s4 w1 w2 w3=>?_;obtain⟨aq,u1,u2⟩:=q3;simp only[go_sem,zE,zA,zL,f11,f6,f46,f47,f48,f4,f5,f8,dC hq (by omega)];refine⟨be,_,rfl,?_,w1,⟨aq,w3 _ _ u1 (λn h=>by cases h),u2⟩,w3 _ _ q4 (λn h=>by cases h),w3 _ _ q5 (λn h=>by cases h),w3 _ _ q6 (λn h=>by cases h),w3.own q7 (by decide),w2⟩;rw[dE hp,eJ];exact aj.snoc ⟨t7,x7,t9,x9,rfl,e7,i7,e9,i9⟩
    ·rintro fr s3 _ ⟨⟨t3,x3,f11,aj,J,q3,q4,q5,q6,q7,q8⟩,f6,f46,f47,f48,f4,f5,f8,rfl⟩;have aC:=aB.1;rw[aC,lTl] at aj;have bj:ys.length=vs.length:=by rw[q2.1,dY]
     have bW:vs.length<=16000000:=by
      have h1:∀l:List (Option Mv),(cutO l).length<=l.length:=λl=>by
       induction l with
       | nil=>exact dJ _
       | cons a l ih =>
        cases a with
        | none=>simp[cutO]
        | some a=>simp only[cutO,dV];omega
      have h2:=dX List.length q1;rw[dQ,dY] at h2;have h3:=h1 (mvsN W (calJ ca) ln);have h4:=zH hS aG U;omega
     simp only[go_sem,zE,zA,zM,zL,f11,f47,f48,f8,dF (nLi _),q6,fits,dW];refine gQ q7 bj q8 rfl (by simp[fits,IV.one]) (by simp only;omega) (by omega) λbd s4 w1 w2 w3=>?_;have a8:=w3 _ _ q6 (λn h=>by cases h);simp only[go_sem,zE,zL,f8,a8];obtain⟨aq,u1,u2⟩:=q3;refine⟨vs++[v],bd,_,?_,?_,⟨aq,by rw[dw aH.symm];exact w3 _ _ u1 (λn h=>by cases h),u2⟩,by rw[dw aJ.symm];exact w3 _ _ q4 (λn h=>by cases h),by rw[dw aI.symm];exact w3 _ _ q5 (λn h=>by cases h),b_ ..,?_,eA w2 h8⟩
     ·rw[dE ah,q1,eJ];rfl
     ·rw[eJ];refine q2.snoc ⟨o1,n1,t5,x5,t6,x6,t3,x3,rfl,?_,J.es,aj⟩;show IsFm ((W[v.2.1]?).getD fm0) _;rw[hf];exact hr.1
     ·rw[lLa];refine w1.mono λg hg _=>?_;rw[dw λe=>by rw[e,a8] at hg;cases hg];exact hg
  ·rintro s' rr ⟨vs,t8,ys,q1,q2,q3,q4,q5,q6,q7,q8⟩;rw[lTl] at q1;have ay:mvsN W (calJ ca) ln=vs.map some:=by
    have h1:∀l:List (Option Mv),none ∉ cutO l->cutO l=l:=λl=>by
     induction l with
     | nil=>intro _;rfl
     | cons a l ih =>
      intro h;cases a with
      | none=>exact absurd (.head _) h
      | some a=>simp only[cutO] at h ⊢;rw[ih λh'=>h (.tail _ h')]
    rw[<- q1,h1];rw[q1];simp
   have aY:=zN hS U ay;have ai:=vf hS U (j:=calJ ca);rw[aX] at aY ai;simp only[go_sem,zE,zL,q4,q5,q6,dw A,dw A.symm];refine⟨st,eA (eA q8 h4) h5,rfl,.inr (.inr ⟨hc,hv,.inr ⟨λh=>?_,t8,ys,q7.es,by rw[aY];exact q2,rfl⟩⟩)⟩;have:=ai.2 h;rw[ay] at this;simp at this
  ·rintro e s' rr ⟨rfl,w1,w2,w3,w4⟩;simp only[go_sem,zE,w1,w2];have ai:=(vf hS U (j:=calJ ca)).1 w3;rw[aX] at ai;exact⟨st,w4,rfl,.inr (.inr ⟨hc,hv,.inl ⟨ai,rfl⟩⟩)⟩
end Go.Proofs.Tryz
namespace Go.Proofs.Tryz
open Go Go.Iv
noncomputable def insC (a:Fm):List Fm->List Fm
 | []=>[a]
 | b::l=>if eB a b<0 then a::b::l else if eB a b=0 then b::l else b::insC a l
noncomputable def setC:List Fm->List Fm
 | []=>[]
 | a::l=>insC a (setC l)
def xQ7 {a x:Fm}:∀ {l:List Fm},x∈insC a l↔x=a\/x∈l
 | []=>by simp[insC]
 | b::l=>by
  unfold insC;split
  ·simp
  ·split
   ·rename_i h;rw[(j6 a b).1 h];simp
   ·rw[dN,xQ7,dN];grind
def Gz {a:Fm}:∀ {l:List Fm},l.Pairwise (λx y=>eB x y<0)->(insC a l).Pairwise (λx y=>eB x y<0)
 | [],_=>by simp[insC]
 | b::l,h=>by
  obtain⟨h1,h2⟩:=jG.1 h;unfold insC;split
  ·rename_i D;refine jG.2 ⟨λx A=>?_,h⟩;rcases dN.1 A with rfl|A
   ·exact D
   ·exact oI _ _ _ D (h1 x A)
  ·split
   ·exact h
   ·rename_i E h0;refine jG.2 ⟨λx A=>?_,Gz h2⟩;rcases xQ7.1 A with rfl|A
    ·have:=p8 x b;omega
    ·exact h1 x A
def GA:∀l:List Fm,SetF l (setC l)
 | []=>⟨List.Pairwise.nil,λ_=>Iff.rfl⟩
 | a::l=>by
  obtain⟨h1,h2⟩:=GA l;refine⟨Gz h1,λf=>?_⟩;show f∈insC a (setC l)↔_;rw[xQ7,h2,dN]
def GB (l:List Fm):setF l=setC l:=mW (GA l)
noncomputable def nfC (s:Sn):Sn:=(setC s.1,setC s.2)
def nf_C (s:Sn):nf s=nfC s:=by unfold nf nfC;rw[GB,GB]
noncomputable def pmC (j:Bool)(s p:Sn):Sn:=nfC (s.1++p.1,rgt j s.2 p.2)
noncomputable def mvC (j:Bool)(s:Sn):List (List Sn):=(s.1.flatMap λf=>(addF j f false).map λt=>t.2.map (pmC j s))++s.2.flatMap λf=>(addF j f true).map λt=>t.2.map (pmC j s)
def Pf (j:Bool)(s:Sn):(mvF j s).map (λm=>m.2.2)=mvC j s:=by
 have key:∀(r:Bool) (l:List Fm),(l.flatMap (mo j s r)).map (λm=>m.2.2)=l.flatMap λf=>(addF j f r).map λt=>t.2.map (pmC j s):=λr l=>by
  rw[List.map_flatMap];congr 1;funext f;unfold mo;rw[iG];refine kl λt _=>?_;refine kl λp _=>?_;exact nf_C _
 unfold mvF mvC;rw[eJ,key,key]
noncomputable def clC (s:Sn):Bool:=s.1.any λf=>s.2.any (λg=>decide (eB f g=0)) || lR f
def oO (s:Sn):clC s=true↔ClF s.1 s.2:=by
 unfold clC ClF;simp only[gw,lf,dTe,j6];constructor
 ·rintro⟨f,A,⟨g,D,rfl⟩|h⟩
  ·exact .inl ⟨_,A,D⟩
  ·exact .inr ⟨f,A,h⟩
 ·rintro (⟨f,h1,h2⟩|⟨f,h1,h2⟩)
  ·exact⟨f,h1,.inl ⟨f,h2,rfl⟩⟩
  ·exact⟨f,h1,.inr h2⟩
def Pg {j r:Bool}{f:Fm}{t:Nat×List Sn}(h:t∈addF j f r):∀p∈t.2,p.1.length<=2/\p.2.length<=2:=by
 unfold addF at h;split at h
 case h_5=>split at h<;>simp at h<;>(try rcases h with rfl|rfl)<;>(try subst h)<;>simp
 all_goals (first|(simp at h;subst h;simp)|(simp at h))
def at0 (l:List Nat)(i:Nat):Nat:=(l[i]?).getD 0
noncomputable def GC:DecidableEq Fm:=λa b=>decidable_of_iff (eB a b=0) (j6 a b)
def GD (n:Nat)(cl:List Bool)(lk:List (List (List Nat)))(hs:List Nat):Bool :=
 (List.range n).all λi=>(decide (i=0) || (List.range i).any λk=>!((cl[k]?).getD true)&&((lk[k]?).getD []).any (·.contains i)) &&
  (if (cl[i]?).getD true=true then decide (at0 hs i=1) else
   (decide (at0 hs i=0) || ((lk[i]?).getD []).any λps=>ps.all λp=>decide (0<at0 hs p)&&decide (at0 hs p<at0 hs i)) &&
   (((lk[i]?).getD []).all λps=>(ps.all λp=>decide (p<n))&&((ps.any λp=>decide (at0 hs p=0)) || (decide (0<at0 hs i)&&ps.any λp=>decide (at0 hs i<=at0 hs p+1)))))
structure Cert (j:Bool)(K:List Sn)(cl:List Bool)(lk:List (List (List Nat)))(hs:List Nat):Prop where
 norm:K.map nfC=K
 nd:K.Nodup
 cls:K.map clC=cl
 mvs:K.map (λs=>if clC s=true then [] else mvC j s)=lk.map (·.map (·.map λn=>(K[n]?).getD ([],[])))
 num:GD K.length cl lk hs=true
 short:(K.all λs=>decide (s.1.length<=60)&&decide (s.2.length<=60))=true
 len:K.length<=20000
section
variable {j:Bool}{K:List Sn}{cl:List Bool}{lk:List (List (List Nat))}{hs:List Nat}(h:Cert j K cl lk hs)
include h
def Cert.at_ {i:Nat}{s:Sn}(A:K[i]?=some s):(cl[i]?).getD true=clC s/\(clC s=false->mvC j s=((lk[i]?).getD []).map (·.map λn=>(K[n]?).getD ([],[]))):=by
 have h1:cl[i]?=some (clC s):=by rw[<- h.cls,eI,A];rfl
 have h2:=dX (λl=>l[i]?) h.mvs;simp only[eI,A,eK] at h2;refine⟨by rw[h1];rfl,λhc=>?_⟩;rw[hc] at h2;simp only[bFt,dI] at h2;cases hl:lk[i]? with
 | none=>rw[hl] at h2;cases h2
 | some l=>rw[hl] at h2;exact eE h2
def Cert.num_ {i:Nat}(A:i<K.length):(i=0\/∃k,k<i/\(cl[k]?).getD true=false/\∃ps∈(lk[k]?).getD [],i∈ps)/\((cl[i]?).getD true=true->at0 hs i=1) /\
  ((cl[i]?).getD true=false->(at0 hs i=0\/∃ps∈(lk[i]?).getD [],∀p∈ps,0<at0 hs p/\at0 hs p<at0 hs i)/\∀ps∈(lk[i]?).getD [],(∀p∈ps,p<K.length)/\((∃p∈ps,at0 hs p=0)\/(0<at0 hs i/\∃p∈ps,at0 hs i<=at0 hs p+1))):=by
 have:=eP.1 h.num i (jE.2 A);rw[bAt] at this;obtain⟨h1,h2⟩:=this;refine⟨?_,λhc=>?_,λhc=>?_⟩
 ·simp only[lf,dTe,gw,jE,bAt,lZ,List.contains_iff_mem] at h1;exact h1
 ·rw[cV hc] at h2;exact fc h2
 ·rw[a_ (by rw[hc];exact Bool.false_ne_true)] at h2;simp only[lf,dTe,gw,bAt,eP] at h2;exact h2
def Cert.mv {i:Nat}{s:Sn}(D:K[i]?=some s)(hc:clC s=false)(P:List Sn->Prop):(∃m∈mvF j s,P m.2.2)↔∃ps∈(lk[i]?).getD [],P (ps.map λn=>(K[n]?).getD ([],[])):=by
 have h1:=(h.at_ D).2 hc;rw[<- Pf] at h1;constructor
 ·rintro⟨m,A,hp⟩;have:m.2.2∈(mvF j s).map (λm=>m.2.2):=gh A;rw[h1] at this;obtain⟨ps,h2,G⟩:=dH.1 this;exact⟨ps,h2,G▸hp⟩
 ·rintro⟨ps,h2,hp⟩;have:(ps.map λn=>(K[n]?).getD ([],[]))∈(mvF j s).map (λm=>m.2.2):=by rw[h1];exact gh h2
  obtain⟨m,A,E⟩:=dH.1 this;exact⟨m,A,E▸hp⟩
def Cert.up:∀(x i:Nat)(s:Sn),K[i]?=some s->at0 hs i=x->0<x->HtS j x s:=by
 intro x
 induction x using Nat.strongRecOn with
 | ind x ih =>
  intro i s E hx h0;have D:=(lGs E).1;obtain⟨_,n1,U⟩:=h.num_ D;obtain⟨y,rfl⟩:∃y,x=y+1:=⟨x-1,by omega⟩
  rw[zj];cases hc:clC s with
  | true=>exact .inl ((oO s).1 hc)
  | false =>
   refine .inr ((h.mv E hc λl=>∀p∈l,HtS j y p).2 ?_);obtain⟨G,O⟩:=U (by rw[(h.at_ E).1];exact hc);rcases G with G|⟨ps,h1,h2⟩
   ·omega
   ·refine⟨ps,h1,λp hp=>?_⟩;obtain⟨n,J,rfl⟩:=dH.1 hp;have A:=(O ps h1).1 n J;obtain⟨a,b⟩:=h2 n J;rw[dO A,eh];have:=ih (at0 hs n) (by omega) n _ (dO A) rfl a;exact this.up (by omega)
def Cert.lo:∀(n i:Nat)(s:Sn),K[i]?=some s->HtS j n s->0<at0 hs i/\at0 hs i<=n
 | 0,_,_,_,A=>A.elim
 | n+1,i,s,J,A=>by
  have G:=(lGs J).1;obtain⟨_,n1,n2⟩:=h.num_ G;have E:=(h.at_ J).1;cases hc:clC s with
  | true =>
   have:=n1 (by rw[E];exact hc);omega
  | false =>
   obtain⟨_,n4⟩:=n2 (by rw[E];exact hc);rw[zj] at A;rcases A with A|A
   ·rw[<- oO,hc] at A;cases A
   ·obtain⟨ps,h1,h2⟩:=(h.mv J hc λl=>∀p∈l,HtS j n p).1 A;obtain⟨O,U⟩:=n4 ps h1;have hp:∀p∈ps,0<at0 hs p/\at0 hs p<=n:=λp hp=>by
     have:=h2 _ (gh hp);rw[dO (O p hp),eh] at this;exact Cert.lo n p _ (dO (O p hp)) this
    rcases U with⟨p,D,h0⟩|⟨h0,p,D,ae⟩
    ·have:=(hp p D).1;omega
    ·have:=(hp p D).2;exact⟨h0,by omega⟩
def Cert.hF {i:Nat}{s:Sn}(A:K[i]?=some s):Tryz.hF j s=at0 hs i :=
 zh (λh0=>h.up _ i s A rfl h0) λn D=>h.lo n i s A D
def Cert.reach {s0:Sn}(h0:K[0]?=some s0):ReachOk j s0 K:=by
 have hr:∀(i:Nat) (s:Sn),K[i]?=some s->Rch j s0 s:=by
  intro i
  induction i using Nat.strongRecOn with
  | ind i O =>
   intro s A;have ac:=(lGs A).1;rcases (h.num_ ac).1 with rfl|⟨k,hk,af,ps,E,ae⟩
   ·rw[h0] at A;cases A;exact .refl
   ·obtain⟨sk,D⟩:=dB (l:=K) (k:=k) (by omega);have hc:clC sk=false:=by rw[<- (h.at_ D).1];exact af
    obtain⟨m,hm,aa⟩:=(h.mv D hc λl=>s∈l).2 ⟨ps,E,dH.2 ⟨i,ae,by rw[A];rfl⟩⟩;exact .step (O k hk sk D) (λhx=>by rw[<- oO,hc] at hx;cases hx) hm aa
 refine⟨h.nd,λs=>⟨λhs=>?_,λhs=>?_⟩,λs hs hc=>?_,h.len⟩
 ·obtain⟨i,A,rfl⟩:=fL.1 hs;exact hr i _ (dO A)
 ·induction hs with
  | refl=>exact lMg h0
  | @step s _ hc m hm p hp O =>
   obtain⟨i,A,rfl⟩:=fL.1 O;have J:clC K[i]=false:=by
    cases hq:clC K[i] with
    | false=>rfl
    | true=>exact absurd ((oO _).1 hq) hc
   obtain⟨ps,E,U⟩:=(h.mv (dO A) J λl=>p∈l).1 ⟨m,hm,hp⟩;obtain⟨n,hn,rfl⟩:=dH.1 U;have G:=(((h.num_ A).2.2 (by rw[(h.at_ (dO A)).1];exact J)).2 ps E).1 n hn;rw[dO G];exact List.getElem_mem G
 ·rintro⟨f,r,hf,t,ht,p,hp,hl⟩;have h1:=Pg ht p hp;have h2:=eP.1 h.short s hs;simp only[bAt,dTe] at h2;unfold tooL at hl;split at hl<;>omega
end
set_option maxRecDepth 100000
abbrev faP:Fm:=.mk 1 ⟨#[80]⟩ [] []
abbrev faQ:Fm:=.mk 1 ⟨#[81]⟩ [] []
abbrev fno (a:Fm):Fm:=.mk 3 noN [] [a]
abbrev fbi (o:Nat)(a b:Fm):Fm:=.mk o noN [] [a,b]
noncomputable def GF (K:List Sn):Decidable K.Nodup:=@List.nodupDecidable Sn (@instDecidableEqProd _ _ (@instDecidableEqList _ GC) (@instDecidableEqList _ GC)) K
def lX {j:Bool}{K:List Sn}{cl:List Bool}{lk:List (List (List Nat))}{hs:List Nat}(h1:K.map nfC=K)(h2:@decide K.Nodup (GF K)=true)(J:K.map clC=cl)
  (G:K.map (λs=>if clC s=true then [] else mvC j s)=lk.map (·.map (·.map λn=>(K[n]?).getD ([],[])))) (E:GD K.length cl lk hs=true) (D:(K.all λs=>decide (s.1.length<=60)&&decide (s.2.length<=60))=true) (A:K.length<=20000):Cert j K cl lk hs :=
 ⟨h1,@fc K.Nodup (GF K) h2,J,G,E,D,A⟩
def c1K:List Sn:=[([faP,(fbi 6 faP faQ)],[faQ]),([faP,(fbi 6 faP faQ)],[faP]),([faP,faQ,(fbi 6 faP faQ)],[faQ])]
def c1:Cert true c1K [false,true,true] [[[1,2]],[],[]] [2,1,1]:=lX (by kernel_rfl) (by kernel_rfl) (by kernel_rfl) (by kernel_rfl) (by kernel_rfl) (by kernel_rfl) (by decide)
def c2K:List Sn:=[([],[(fbi 5 faP (fno faP))]),([],[faP,(fno faP),(fbi 5 faP (fno faP))]),([faP],[faP,(fno faP),(fbi 5 faP (fno faP))])]
def c2:Cert false c2K [false,false,true] [[[1]],[[2],[1]],[]] [3,2,1]:=lX (by kernel_rfl) (by kernel_rfl) (by kernel_rfl) (by kernel_rfl) (by kernel_rfl) (by kernel_rfl) (by decide)
def c3K:List Sn:=[([],[(fbi 5 faP (fno faP))]),([],[faP]),([],[(fno faP)]),([faP],[(fno faP)])]
def c3:Cert true c3K [false,false,false,false] [[[1],[2]],[],[[3]],[[3]]] [0,0,0,0]:=lX (by kernel_rfl) (by kernel_rfl) (by kernel_rfl) (by kernel_rfl) (by kernel_rfl) (by kernel_rfl) (by decide)
def c4K:List Sn:=[([],[(fno (fno (fbi 5 faP (fno faP))))]),([(fno (fbi 5 faP (fno faP)))],[(fno (fno (fbi 5 faP (fno faP))))]),([(fno (fbi 5 faP (fno faP)))],[(fbi 5 faP (fno faP))]),([(fno (fbi 5 faP (fno faP)))],[faP]),([(fno (fbi 5 faP (fno faP)))],[(fno faP)]),([faP,(fno (fbi 5 faP (fno faP)))],[(fno faP)]),([faP,(fno (fbi 5 faP (fno faP)))],[(fbi 5 faP (fno faP))]),([faP,(fno (fbi 5 faP (fno faP)))],[faP])]
def c4:Cert true c4K [false,false,false,false,false,false,false,true] [[[1]],[[2],[1]],[[2],[3],[4]],[[2]],[[2],[5]],[[6],[5]],[[6],[7],[5]],[]] [7,6,5,6,4,3,2,1]:=lX (by kernel_rfl) (by kernel_rfl) (by kernel_rfl) (by kernel_rfl) (by kernel_rfl) (by kernel_rfl) (by decide)
def c5K:List Sn:=[([(fbi 6 faP (fbi 6 faP faQ))],[(fbi 6 faP faQ)]),([(fbi 6 faP (fbi 6 faP faQ))],[faP,(fbi 6 faP faQ)]),([(fbi 6 faP faQ),(fbi 6 faP (fbi 6 faP faQ))],[(fbi 6 faP faQ)]),([faP,(fbi 6 faP (fbi 6 faP faQ))],[faQ,(fbi 6 faP faQ)]),([(fbi 6 faP faQ),(fbi 6 faP (fbi 6 faP faQ))],[faP,(fbi 6 faP faQ)]),([faP,(fbi 6 faP (fbi 6 faP faQ))],[faP,faQ,(fbi 6 faP faQ)]),([faP,(fbi 6 faP faQ),(fbi 6 faP (fbi 6 faP faQ))],[faQ,(fbi 6 faP faQ)])]
def c5:Cert false c5K [false,false,true,false,true,true,true] [[[1,2],[3]],[[1,4],[5]],[],[[5,6],[3]],[],[],[]] [3,2,1,2,1,1,1]:=lX (by kernel_rfl) (by kernel_rfl) (by kernel_rfl) (by kernel_rfl) (by kernel_rfl) (by kernel_rfl) (by decide)
def c6K:List Sn:=[([(fbi 6 faP (fbi 6 faP faQ))],[(fbi 6 faP faQ)]),([(fbi 6 faP (fbi 6 faP faQ))],[faP]),([(fbi 6 faP faQ),(fbi 6 faP (fbi 6 faP faQ))],[(fbi 6 faP faQ)]),([faP,(fbi 6 faP (fbi 6 faP faQ))],[faQ]),([(fbi 6 faP faQ),(fbi 6 faP (fbi 6 faP faQ))],[faP]),([faP,(fbi 6 faP (fbi 6 faP faQ))],[faP]),([faP,(fbi 6 faP faQ),(fbi 6 faP (fbi 6 faP faQ))],[faQ]),([faQ,(fbi 6 faP faQ),(fbi 6 faP (fbi 6 faP faQ))],[faP]),([faP,(fbi 6 faP faQ),(fbi 6 faP (fbi 6 faP faQ))],[faP]),([faP,faQ,(fbi 6 faP faQ),(fbi 6 faP (fbi 6 faP faQ))],[faQ])]
def c6:Cert true c6K [false,false,true,false,false,true,false,false,true,true] [[[1,2],[3]],[[1,4]],[],[[5,6]],[[4,7],[4,4]],[],[[8,9],[8,6]],[[7,7],[7,7]],[],[]] [4,0,1,3,0,1,2,0,1,1]:=lX (by kernel_rfl) (by kernel_rfl) (by kernel_rfl) (by kernel_rfl) (by kernel_rfl) (by kernel_rfl) (by decide)
def oP {j:Bool}{K:List Sn}{cl:List Bool}{lk:List (List (List Nat))}{hs:List Nat}(h:Cert j K cl lk hs){s:Sn}(h0:K[0]?=some (nfC s)):hF j s=at0 hs 0/\ReachOk j (nf s) K:=by
 rw[<- Ff,nf_C];exact⟨h.hF h0,h.reach h0⟩
def aw2:hF false ([],[fbi 5 faP (fno faP)])=3/\ReachOk false (nf ([],[fbi 5 faP (fno faP)])) c2K:=oP c2 (by kernel_rfl)
def aw3:hF true ([],[fbi 5 faP (fno faP)])=0/\ReachOk true (nf ([],[fbi 5 faP (fno faP)])) c3K:=oP c3 (by kernel_rfl)
noncomputable def mvD (j:Bool)(s:Sn):List (Nat×Fm×List Sn):=(s.1.flatMap λf=>(addF j f false).map λt=>(t.1,f,t.2.map (pmC j s)))++s.2.flatMap λf=>(addF j f true).map λt=>(t.1,f,t.2.map (pmC j s))
def zW (j:Bool)(s:Sn):mvF j s=mvD j s:=by
 have h:oL j s=pmC j s:=funext λp=>nf_C _;unfold mvF mo mvD;rw[h]
abbrev orP:Fm:=fbi 5 faP (fno faP)
def sn {l:List Fm}{f:Fm}(h:(decide (l.length<=64)&&l.all (fmB 2)&&fmB 2 f)=true):ev 2 ⟨l,[f]⟩=true:=by
 simp only[bAt] at h;obtain⟨⟨h1,h2⟩,A⟩:=h;have D:f.right=true:=by unfold fmB at A;exact (bAt _ _▸A).1
 unfold ev;have E:eqF f f=true:=by unfold eqF iB;rw[D,dEt rfl];simp[eqB]
 simp only[h1,h2,A,uE,List.all_cons,List.all_nil,E,Bool.and_true,Bool.or_true];rfl
def awv2:ev 1 ⟨[],[orP]⟩=true:=by kernel_rfl
def awv3:ev 2 ⟨[],[orP]⟩=true:=sn (by kernel_rfl)
def ReachOk.no' {j:Bool}{s0:Sn}{K:List Sn}(h:ReachOk j s0 K){e:Nat}(A:qg j s0 e):False:=h.no .refl A
def ReachOk.top {j:Bool}{s0:Sn}{K:List Sn}(h:ReachOk j s0 K)(hc:¬ ClF s0.1 s0.2):¬ mX j s0:=h.short s0 ((h.mem s0).2 .refl) hc
end Go.Proofs.Tryz
namespace Go.Proofs.Tryz
open Go Go.Iv
set_option maxRecDepth 4000
variable (gl:Nat->Option IV)
abbrev sI (s:Sq):IV:=.agg [.sl (tagF s.l) (fmsI s.l),.sl (tagF s.r) (fmsI s.r)]
def sr (s:Sq)(h:(pU s.l&&pU s.r)=true):IsSq s (sI s):=by
 rw[bAt] at h;exact⟨_,_,_,_,rfl,xO _,uv _ h.1,xO _,uv _ h.2⟩
def oQ (G:Gl gl)(T:Gt gl)(ca:Nat)(s:Sq)(hc:ca=1\/ca=2)(hv:ev ca s=true){n:Nat}{K:List Sn}(hK:hF (calJ ca) (s.l,s.r)=n/\ReachOk (calJ ca) (nf (s.l,s.r)) K)(x:IV)(D:IsSq s x)(hs:fW s)(st:ISt) :
  ICall prog gl 50 [.raw (.int .u8 (ca:Int)),x] st (λr st'=>r=.tup [(n:Int),(0:Int)]/\st'=st) :=
 (O9 gl G T ca s x D hs st).mono λr st' ⟨h1,h2⟩=>by
  rcases h2 with⟨e,E,_⟩|⟨_,_,_,A⟩
  ·rcases E.1 with⟨h,_⟩|⟨_,h,_⟩|⟨_,_,h⟩
   ·exact (h hc).elim
   ·rw[hv] at h;cases h
   ·exact (hK.2.no' h).elim
  ·rw[hK.1] at A;exact⟨A,h1⟩
def Ph (G:Gl gl)(T:Gt gl)(ca:Nat)(s:Sq)(hc:ca=1\/ca=2)(hv:ev ca s=true)(D:¬ mX (calJ ca) (nf (s.l,s.r)))(x:IV)(A:IsSq s x)(hs:fW s)(st:ISt) :
  ICall prog gl 92 [.raw (.int .u8 (ca:Int)),x] st (λr st'=>(∃t ys,okEs t 6/\AllR gT (mvF (calJ ca) (nf (s.l,s.r))) ys/\r=.tup [.sl t ys,(0:Int)])/\st'=st) :=
 (Pe gl G T ca s x A hs st).mono λr st' ⟨h1,h2⟩=>by
  rcases h2 with⟨h,_⟩|⟨_,h,_⟩|⟨_,_,⟨h,_⟩|⟨_,E⟩⟩
  ·exact (h hc).elim
  ·rw[hv] at h;cases h
  ·exact (D h).elim
  ·exact⟨E,h1⟩
end Go.Proofs.Tryz
namespace Go.Proofs.Tryz
open Go Go.Iv
def Pj {ca:Nat}{s:Sq}(h:ev ca s=true):∀f∈s.l++s.r,fmB ca f=true:=by
 unfold ev at h;simp only[bAt,dTe,eP] at h;obtain⟨⟨⟨⟨⟨_,hl⟩,G⟩,D⟩,A⟩,_⟩:=h;exact λf E=>(dR.1 E).elim (D f) (A f)
end Go.Proofs.Tryz
namespace Go.Proofs.Tryz
open Go Go.Iv
set_option maxRecDepth 4000
variable (gl:Nat->Option IV)
def Pk (l m:List Sq)(t t':Tag)(xs ys:List IV)(ht:okEs t 2)(af:okEs t' 2)(U:IsSqs l xs)(hy:IsSqs m ys)(st:ISt) :
  ICall prog gl 24 [.sl t xs,.sl t' ys] st (λr st'=>r=(eqB l m:Bool)/\st'=st):=by
 refine iI func24 ?_;simp only[go_sem,zE,reduceCtorEq,U.len,hy.len];intro am al;by_cases A:l.length=m.length
 case neg =>
  simp only[go_sem,show decide (((l.length:Nat):Int)=m.length)=false from dEf (by omega)];exact c_ ⟨by rw[yQo.2 λh=>A (by rw[h])],rfl⟩
 simp only[go_sem,show decide (((l.length:Nat):Int)=m.length)=true from dEt (by omega)];refine dj l.length (λk fr st' ds=>l.take k=m.take k/\fr 0=.iv (.sl t xs)/\fr 1=.iv (.sl t' ys)/\fr 5=.iv (.raw (.int .i64 k))/\st'=st/\ds=[]) ?_ ?_ ?_
 ·simp only[go_sem,zE,reduceCtorEq];simp
 ·rintro k fr G _ D ⟨hn,f0,f1,f5,rfl,rfl⟩;obtain⟨a,ha⟩:=dB D;obtain⟨b,hb⟩:=dB (l:=m) (k:=k) (by omega);obtain⟨x,ah,O⟩:=U.get ha;obtain⟨y,ag,J⟩:=hy.get hb;have E:=DU gl a b x y O J G;obtain⟨_,_,_,_,rfl⟩:=IsSq.two O;obtain⟨_,_,_,_,rfl⟩:=IsSq.two J;simp only[go_sem,zE,zB,zA,reduceCtorEq,f0,f1,f5,U.len,lt_i D,dz ht,dz af,iNn,ah,ag,fits];intros;refine E.mono ?_;rintro _ _ ⟨rfl,rfl⟩;cases hq:eqB a b
  ·simp only[go_sem];refine c_ ⟨?_,rfl⟩;rw[yQo.2 λh=>?_];subst h;rw[ha] at hb;cases hb;exact yQo.1 hq rfl
  ·simp only[go_sem,zE,reduceCtorEq,f0,f1,f5,dC D (by omega)];rw[dE ha,dE hb,hn,yQx.1 hq]
 ·rintro fr G _ ⟨hn,f0,f1,f5,rfl,rfl⟩;rw[lTl,show m.take l.length=m by rw[A,lTl]] at hn;simp only[go_sem,zE,reduceCtorEq,f0,f5,U.len,dF (nLi _)];intros;exact c_ ⟨by rw[yQx.2 hn],rfl⟩
set_option maxRecDepth 8000
def GG:∀ {l:List Sn}{A:List IV},AllR (λp y=>IsSq ⟨p.1,p.2⟩ y) l A->IsSqs (l.map λp=>⟨p.1,p.2⟩) A
 | [],A,h=>by
  have:=h.1;obtain rfl:A=[]:=eG this;simp[IsSqs]
 | p::l,A,h=>by
  obtain⟨x,h0,D⟩:=h.2 0 p rfl;cases A with
  | nil=>cases h0
  | cons y ys =>
   obtain rfl:y=x:=by simpa using h0
   exact⟨y,ys,rfl,D,GG ⟨by have:=h.1;simpa using this,λi a E=>h.2 (i+1) a E⟩⟩
def jl {s:Sq}(h:(s.l.all (λf=>decide (f.size<=1000000))&&s.r.all (λf=>decide (f.size<=1000000)))=true):fW s:=by
 simp only[bAt,eP,dTe] at h;exact h
def Pm (x y z:Operand):kB 3 [(0,x),(1,y),(2,z)]=true:=rfl
def Pn (r:List Nat)(x:IV):Prop:=∃t,x=.sl t (dM r)/\okEs t 1
def Po (S:List (List Nat)):Prop:=S.length<=3/\∀r∈S,r.length<=3/\∀u∈r,u<S.length
section
variable (S:List (List Nat))(hS:Po S)(tS:Tag)(xS:List IV)(htS:okEs tS 1)(hxS:AllR Pn S xS)(ta tm:Tag)(hta:okEs ta 1)(htm:okEs tm 1)(l:List ByteArray)(hnd:l.Nodup)(hl:l.length<=100)(ms:List Nat)(hml:ms.length=S.length)(hms:∀m∈ms,m<=1000000)
include hS htS hxS hta htm hnd hl hml hms
end
end Go.Proofs.Tryz
namespace Go.Proofs.Tryz
open Go Go.Iv
abbrev trZ0:Tr:=.mk 0 ⟨[],[]⟩ fm0 tmZ noN []
noncomputable def mstS (j:Bool)(ps:List Sn):Nat:=if ps.any (λp=>decide (hF j p=0))=true then 0 else ps.foldl (λm p=>max m (hF j p)) 0
noncomputable def Pp (j:Bool)(s:Sn):Option (Nat×Fm×List Sn):=(mvF j s).find? λm=>decide (mstS j m.2.2+1=hF j s)
open Classical in
noncomputable def axF (s:Sn):Option (Nat×Fm):=match s.1.find? (λf=>decide (f∈s.2)) with
 | some f=>some (1,f)
 | none=>if s.1.any lR=true then some (2,.mk 2 noN [] []) else none
noncomputable def tF (j:Bool):Nat->Sn->Tr
 | 0,_=>trZ0
 | n+1,s=>match axF s with
  | some (r,f)=>.mk r (sqOf s) f tmZ noN []
  | none=>match Pp j s with
   | some m=>.mk m.1 (sqOf s) m.2.1 tmZ noN (m.2.2.map (tF j n))
   | none=>trZ0
def Pq {s:Sn}{r:Nat}{f:Fm}(h:axF s=some (r,f)):(r=1/\f∈s.1/\f∈s.2)\/(r=2/\f=.mk 2 noN [] []/\∃g∈s.1,lR g=true):=by
 unfold axF at h;split at h
 ·rename_i E A;cases h;exact .inl ⟨rfl,List.mem_of_find?_eq_some A,by simpa using List.find?_some A⟩
 ·split at h
  ·rename_i D;cases h;obtain⟨g,h1,h2⟩:=gw.1 D;exact .inr ⟨rfl,rfl,g,h1,h2⟩
  ·cases h
def GH {ca:Nat}{s:Sq}{rule:Nat}{main:Fm}{term:Tm}{name:ByteArray}{r:Rw}{ad:List Sq}(h1:ev ca s=true)(h2:rowS ca rule=some r)(O:fH ca rule r main term name=(ad,0))
  (J:r.left=true->hasF s.l main=true) (G:r.right=true->hasF s.r main=true) (E:r.asks=0):fA ca s rule main term name=(ad,0):=by
 unfold fA;rw[h1,h2];simp only[mw,bFt,dI,O];obtain⟨D,A,op,asks⟩:=r;simp only at J G E ⊢;have e1:(D&&!hasF s.l main)=false:=by
  cases D
  ·rfl
  ·rw[J rfl];rfl
 have U:(A&&!hasF s.r main)=false:=by
  cases A
  ·rfl
  ·rw[G rfl];rfl
 subst E;rw[e1,U];rfl
def GI {f:Fm}(A:f.right=true):eqF f f=true:=by unfold eqF iB;rw[A,dEt rfl];simp[eqB]
def m_ {ca:Nat}{f:Fm}(h:fmB ca f=true):f.right=true:=by unfold fmB at h;exact (bAt _ _▸h).1
def qv {l:List Fm}{f:Fm}(h:f∈l)(A:f.right=true):hasF l f=true:=gw.2 ⟨f,h,GI A⟩
def GJ {l m:List Fm}(h:∀f∈l,f∈m)(D:∀f∈l,f.right=true):allF l m=true:=eP.2 λf A=>qv (h f A) (D f A)
def Pr {ca:Nat}(hc:ca=1\/ca=2){f:Fm}(A:PF f){r:Bool}{t:Nat×List Sn}(ht:t∈addF (calJ ca) f r):∃R,rowS ca t.1=some R/\(R.left=true->r=false)/\(R.right=true->r=true)/\R.asks=0/\t.1<256/\t.1≠17:=by
 cases A with
 | atom n=>simp[addF] at ht
 | fls=>simp[addF] at ht
 | neg D =>
  rcases hc with rfl|rfl<;>cases r<;>simp[addF] at ht<;>subst ht<;>exact⟨_,rfl,by simp,by simp,rfl,by simp,by simp⟩
 | @bin o a b G E _ _ =>
  obtain rfl|rfl|rfl|rfl:o=4\/o=5\/o=6\/o=7:=by omega
  all_goals rcases hc with rfl|rfl<;>cases r<;>simp[addF,calJ] at ht
  all_goals first
   | (subst ht;exact⟨_,rfl,by simp,by simp,rfl,by simp,by simp⟩)
   | (rcases ht with rfl|rfl<;>exact⟨_,rfl,by simp,by simp,rfl,by simp,by simp⟩)
def Ps {ca:Nat}{rule:Nat}{f:Fm}{R:Rw}{ad:List Sq}(A:gv ca=true)(D:rowS ca rule=some R)(h:lQ ca rule f tmZ noN=(ad,0)):fH ca rule R f tmZ noN=(ad,0):=by
 unfold lQ at h;rw[A,D] at h;exact h
def GK {s:Sq}:∀ {ad:List Sq} {sub:List Tr},(∀(i:Nat) (m:Sq) (t:Tr),ad[i]?=some m->sub[i]?=some t->j7 t.sq (s.plus m)=true)->gp s ad sub=true
 | [],_,_=>by simp[gp]
 | m::ad,[],_=>by simp[gp]
 | m::ad,t::sub,h=>by
  simp only[gp,bAt];exact⟨h 0 m t rfl rfl,GK λi m t h1 h2=>h (i+1) m t h1 h2⟩
def Pt {ca:Nat}(hc:ca=1\/ca=2){s:Sn}(hv:ev ca (sqOf s)=true)(h1:∀f∈s.1,fmB ca f=true)(h2:∀f∈s.2,fmB ca f=true){m:Nat×Fm×List Sn}(hm:m∈mvF (calJ ca) s){sub:List Tr}(G:sub.map Tr.sq=m.2.2.map sqOf) :
  fP ca (.mk m.1 (sqOf s) m.2.1 tmZ noN sub)=0/\m.1<256/\m.1≠17/\fmB ca m.2.1=true:=by
 have O:ca≠3:=by omega
 have hk:gv ca=true:=by unfold gv;rcases hc with rfl|rfl<;>rfl
 have key:∀(r:Bool) (f:Fm),f∈(if r=true then s.2 else s.1)->m∈mo (calJ ca) s r f->fP ca (.mk m.1 (sqOf s) m.2.1 tmZ noN sub)=0/\m.1<256/\m.1≠17/\fmB ca m.2.1=true:=λr f E ac=>by
  obtain⟨t,ht,rfl⟩:=dH.1 ac;have A:fmB ca f=true:=by cases r<;>simp at E<;>first|exact h1 f E|exact h2 f E
  obtain⟨R,hR,hl,hr,ha,ae,af⟩:=Pr hc (lU O A) ht;have U:=FK hc A ht;have hst:fA ca (sqOf s) t.1 f tmZ noN=(t.2.map sqOf,0):=GH hv hR (Ps hk hR U)
   (λh=>qv (show f∈s.1 by rw[hl h] at E;simpa using E) (m_ A)) (λh=>qv (show f∈s.2 by rw[hr h] at E;simpa using E) (m_ A)) ha
  refine⟨?_,ae,af,A⟩;have J:sub.length=(t.2.map sqOf).length:=by
   have:=dX List.length G;simpa using this
  simp only[fP];rw[hst];simp only[ne_eq,nTf,dI,J];rw[cV];refine GK λi q tr hq aa=>?_;rw[eI] at hq;obtain⟨p,hp,rfl⟩:=fb.1 hq;have hs:(sub.map Tr.sq)[i]?=some tr.sq:=by rw[eI,aa];rfl
  rw[G,eI,eI,hp] at hs;have ab:tr.sq=sqOf (oL (calJ ca) s p):=by simpa using hs.symm
  rw[ab];obtain⟨a1,a2⟩:=N7 O A ht p (lMg hp);have w1:∀g∈(oL (calJ ca) s p).1,g∈s.1++p.1:=λg D=>yY3.1 D;have w2:∀g∈(oL (calJ ca) s p).2,g∈s.2++p.2:=λg D=>by
   have D:=yY3.1 D;unfold rgt at D;split at D
   ·exact jD _ D
   ·exact D
  unfold j7;rw[bAt];exact⟨GJ w1 λg D=>m_ ((dR.1 (w1 g D)).elim (h1 g) (a1 g)),GJ w2 λg D=>m_ ((dR.1 (w2 g D)).elim (h2 g) (a2 g))⟩
 rcases dR.1 hm with hm|hm
 ·obtain⟨f,E,hm⟩:=f_.1 hm;exact key false f E hm
 ·obtain⟨f,E,hm⟩:=f_.1 hm;exact key true f E hm
def Pu {ca:Nat}(hc:ca=1\/ca=2){s:Sn}(hv:ev ca (sqOf s)=true)(h1:∀f∈s.1,fmB ca f=true){r:Nat}{f:Fm}(ha:(r=1/\f∈s.1/\f∈s.2)\/(r=2/\f=.mk 2 noN [] []/\∃g∈s.1,lR g=true)) :
  fP ca (.mk r (sqOf s) f tmZ noN [])=0/\(r=1\/r=2)/\fmB ca f=true:=by
 have aa:ca≠3:=by omega
 have D:∀R,rowS ca r=some R->R.asks=0->fH ca r R f tmZ noN=([],0)->(R.left=true->hasF s.1 f=true)->(R.right=true->hasF s.2 f=true)->fP ca (.mk r (sqOf s) f tmZ noN [])=0:=λR hR h0 hA hl E=>by
  have hst:fA ca (sqOf s) r f tmZ noN=([],0):=GH hv hR hA hl E h0;simp only[fP];rw[hst];rfl
 rcases ha with⟨rfl,hl,E⟩|⟨rfl,rfl,g,U,J⟩
 ·have A:=h1 f hl;refine⟨D ⟨true,true,0,0⟩ (by rcases hc with rfl|rfl<;>rfl) rfl ?_ (λ_=>qv hl (m_ A)) (λ_=>qv E (m_ A)),.inl rfl,A⟩;unfold fH;rw[A];simp[addS]
 ·have G:=lU aa (h1 g U);have O:g=.mk 2 noN [] []:=by
   cases G<;>simp[lR] at J
   ·rfl
   ·omega
  subst O;have A:=h1 _ U;refine⟨D ⟨true,false,2,0⟩ (by rcases hc with rfl|rfl<;>rfl) rfl ?_ (λ_=>qv U (m_ A)) (λh=>by cases h),.inr rfl,A⟩;unfold fH;rw[A];simp[addS,Fm.op]
def GL {ca:Nat}(hc:ca=1\/ca=2){s:Sn}(hv:ev ca (sqOf s)=true)(h1:∀f∈s.1,fmB ca f=true){r:Nat}{f:Fm}(A:axF s=some (r,f)) :
  fP ca (.mk r (sqOf s) f tmZ noN [])=0/\(r=1\/r=2)/\fmB ca f=true:=Pu hc hv h1 (Pq A)
def front {A:Fm}{L M:List Fm}:∀f∈(A::L)++M,f∈A::(L++M):=λf h=>by simpa using h
end Go.Proofs.Tryz
namespace Go.Proofs.Tryz
open Go Go.Iv
set_option maxRecDepth 4000
variable (gl:Nat->Option IV)
def plI (p:List Nat):List IV:=p.map λ(i:Nat)=>(i:Int)
def ir (p:List Nat):(plI p).length=p.length:=by simp[plI]
def emp:ISt:=λ_=>none
def PlV (p:List Nat)(a:IV)(e:ISt):Prop :=
 (∃t,a=.sl t []/\t.cap=.nil/\p=[]/\e=emp) \/
 ∃g cap cs,a=.raw (.slice (some ⟨g,0,none⟩) p.length cap)/\e=emp.put g (some (.box cs))/\p.length<=cap/\cap<=cs.length/\cs.take p.length=plI p
def lkW (w:IV->IV)(l:List (List Nat×Tr))(k:Nat)(zs:List IV)(e:ISt):Prop:=∃p t a x,l[k]?=some (p,t)/\IsTr t x/\PlV p a e/\zs=[a,w x]
abbrev lkT:=lkW .cptr
def pt (b:Nat):IV:=.raw (.pointer (some ⟨b,0,none⟩))
def k_ (F b2 b3 b4:Nat):IV:=.fn (.func F) [] [.raw (.pointer (some ⟨b2,0,none⟩)),.raw (.pointer (some ⟨b3,0,none⟩)),.raw (.pointer (some ⟨b4,0,none⟩))]
def ownF (F b2 b3 b4:Nat)(fy a:IV):ISt:=((emp.put b2 (some (.box [fy]))).put b3 (some (.box [a]))).put b4 (some (.box [k_ F b2 b3 b4]))
section
variable {F b2 b3 b4:Nat}{fy a:IV}
def vh (D:b2≠b3)(A:b2≠b4):ownF F b2 b3 b4 fy a b2=some (.box [fy]):=by simp only[ownF,ISt.put_apply,a_ D,a_ A,dD]
def iE (A:b3≠b4):ownF F b2 b3 b4 fy a b3=some (.box [a]):=by simp only[ownF,ISt.put_apply,a_ A,dD]
def mq:ownF F b2 b3 b4 fy a b4=some (.box [k_ F b2 b3 b4]):=by simp only[ownF,ISt.put_apply,dD]
def vj {c:Nat}(h2:c≠b2)(D:c≠b3)(A:c≠b4):ownF F b2 b3 b4 fy a c=none:=by simp only[ownF,ISt.put_apply,a_ h2,a_ D,a_ A,emp]
def nZ {c:Nat}(a':IV):ownF F b2 b3 b4 fy a c=none↔ownF F b2 b3 b4 fy a' c=none:=by
 simp only[ownF,ISt.put_apply];by_cases A:c=b4
 ·simp[A]
 ·by_cases D:c=b3
  ·subst D;simp only[a_ A,dD,reduceCtorEq]
  ·simp[A,D]
end
def nc (F b2 b3 b4:Nat)(fy:IV)(p:List Nat)(s A:ISt):Prop:=∃a e,PlV p a e/\disj s e/\disj (join s e) (ownF F b2 b3 b4 fy a)/\A=join (join s e) (ownF F b2 b3 b4 fy a)
def FOkL (w:IV->IV)(y:IV)(I:Nat->ISt->Prop)(S:ISt->Prop)(k0:Nat)(l:List (List Nat×Tr)):Prop :=
 ∀i p t x a e stu,l[i]?=some (p,t)->IsTr t x->PlV p a e->disj stu e->I (k0+i) stu →
  ICallV prog gl y [a,w x] (join stu e) λr st'=>(r=true/\∃s1,I (k0+i+1) s1/\disj s1 e/\st'=join s1 e)\/(r=false/\S st')
section
variable {gl}{w:IV->IV}{y:IV}{I:Nat->ISt->Prop}{S:ISt->Prop}{k0:Nat}
def FOkL.left {l m:List (List Nat×Tr)}(h:FOkL gl w y I S k0 (l++m)):FOkL gl w y I S k0 l:=λi p t x a e stu A =>
 h i p t x a e stu (by rw[fw (lGs A).1];exact A)
def FOkL.right {l m:List (List Nat×Tr)}(h:FOkL gl w y I S k0 (l++m)):FOkL gl w y I S (k0+l.length) m:=λi p t x a e stu D A hp hd E=>by
 have:=h (l.length+i) p t x a e stu (by rw[fD (by omega)];simpa using D) A hp hd (by rw[<- fE];exact E);simpa only[fE] using this
def FOkL.tail {z:List Nat×Tr}{m:List (List Nat×Tr)}(h:FOkL gl w y I S k0 (z::m)):FOkL gl w y I S (k0+1) m:=FOkL.right (l:=[z]) h
end
section
variable {F b2 b3 b4:Nat}{fy a a':IV}{p:List Nat}{s:ISt}{g:Nat}
def vk {c:Nat}(h:c≠b3):ownF F b2 b3 b4 fy a c=ownF F b2 b3 b4 fy a' c:=by simp only[ownF,ISt.put_apply,a_ h]
def vm {cs:List IV}(ab:b3≠b4)(hs:disj s (ownF F b2 b3 b4 fy a))(O:s g=none)(J:ownF F b2 b3 b4 fy a g=none)(hp:PlV p a' (emp.put g (some (.box cs)))) :
  nc F b2 b3 b4 fy p s (((join s (ownF F b2 b3 b4 fy a)).put g (some (.box cs))).put b3 (some (.box [a']))):=by
 have D:ownF F b2 b3 b4 fy a' g=none:=(nZ a').1 J;refine⟨a',_,hp,λb A=>?_,λb A=>?_,?_⟩
 ·rw[ISt.put_apply] at A;split at A
  ·rename_i h;rw[h];exact O
  ·exact absurd rfl A
 ·have aa:b≠g:=by rintro rfl;exact A D
  have U:(emp.put g (some (.box cs))) b=none:=by rw[ISt.put_apply,a_ aa];rfl
  rw[fO U];exact hs b λh=>A ((nZ a').1 h)
 ·funext c;by_cases E:c=b3
  ·rw[ISt.put_apply,cV E,E,eS (iE ab)]
  ·rw[ISt.put_apply,a_ E,ISt.put_apply];by_cases hc:c=g
   ·rw[cV hc,hc,fO D,eS (b_ ..)]
   ·rw[a_ hc];have U:(emp.put g (some (.box cs))) c=none:=by rw[ISt.put_apply,a_ hc];rfl
    cases G:ownF F b2 b3 b4 fy a c with
    | some o=>rw[eS G,eS ((vk E).symm.trans G)]
    | none=>rw[fO G,fO ((vk E).symm.trans G),fO U]
def GM {cs:List IV}(E:s g=none)(D:ownF F b2 b3 b4 fy a g=none):(join (join s (emp.put g (some (.box cs)))) (ownF F b2 b3 b4 fy a)).put g none=join s (ownF F b2 b3 b4 fy a):=by
 funext c;rw[ISt.put_apply];split
 ·rename_i h;rw[h,fO D,E]
 ·rename_i h;have G:(emp.put g (some (.box cs))) c=none:=by rw[ISt.put_apply,a_ h];rfl
  cases A:ownF F b2 b3 b4 fy a c with
  | some o=>rw[eS A,eS A]
  | none=>rw[fO A,fO A,fO G]
end
def PlV.cons {p:List Nat}{k:Nat}{a:IV}{e:ISt}(h:PlV (p++[k]) a e):∃g cap cs,a=.raw (.slice (some ⟨g,0,none⟩) (p.length+1) cap)/\e=emp.put g (some (.box cs))/\p.length+1<=cap/\cap<=cs.length/\cs.take p.length=plI p:=by
 rcases h with⟨t,_,_,h,_⟩|⟨g,cap,cs,rfl,rfl,h1,h2,A⟩
 ·simp at h
 ·rw[lLa] at h1 A ⊢;refine⟨g,cap,cs,rfl,rfl,h1,h2,?_⟩;have:=dX (List.take p.length) A;rw[List.take_take,show min p.length (p.length+[k].length)=p.length by omega] at this;rw[this];unfold plI;rw[eJ,List.take_left' (by simp)]
def qw {F b2 b3 b4:Nat}{fy a a':IV}{X:ISt}(D:b3≠b4):(join X (ownF F b2 b3 b4 fy a)).put b3 (some (.box [a']))=join X (ownF F b2 b3 b4 fy a'):=by
 funext c;rw[ISt.put_apply];split
 ·rename_i h;rw[h,eS (iE D)]
 ·rename_i h;cases A:ownF F b2 b3 b4 fy a c with
  | some o=>rw[eS A,eS ((vk h).symm.trans A)]
  | none=>rw[fO A,fO ((vk h).symm.trans A)]
def qx {n m:Nat}(h:n+1<=m):fT none (some ((n:Nat):Int)) m=some (0,n):=by
 simp only[fT,fM,eh];rw[cV ⟨jw _,by omega,by omega⟩];simp
def zX:∀ {l:List Tr}{t:Tr},t∈l->t.height<=lO l
 | a::l,t,h=>by
  simp only[lO];rcases dN.1 h with rfl|h
  ·omega
  ·have:=zX h;omega
def su (x:Operand):kB 1 [(0,x)]=true:=rfl
def oR (p:List Nat):∀(i:Nat) (l m:List Tr),ek p i (l++m)=ek p i l++ek p (i+l.length) m
 | i,[],m=>by simp[ek]
 | i,a::l,m=>by
  simp only[ed,ek,oR p (i+1) l m,en,dV];rw[show i+1+l.length=i+(l.length+1) by omega]
def FF (t:Tr):Prop:=∀(x:IV) (_:IsTr t x) (b2 b3 b4:Nat) (_:b2≠b3) (_:b2≠b4) (_:b3≠b4) (g:Fn) (D ca:List IV) (_:fnOk g=true) (_:∀i,g=.func i->entI prog i=true) (I:Nat->ISt->Prop) (S:ISt->Prop) (k0:Nat) (p:List Nat)
  (_:FOkL gl .cptr (.fn g D ca) I S k0 (t.walk p)) (_:p.length+t.height<=1099511627776) (s A:ISt) (_:I k0 s) (_:nc 81 b2 b3 b4 (.fn g D ca) p s A),
  ICall prog gl 81 [.cptr x,.raw (.pointer (some ⟨b2,0,none⟩)),.raw (.pointer (some ⟨b3,0,none⟩)),.raw (.pointer (some ⟨b4,0,none⟩))] A
   (λr st'=>(r=true/\∃s1,I (k0+(t.walk p).length) s1/\nc 81 b2 b3 b4 (.fn g D ca) p s1 st')\/(r=false/\∃s1,S s1/\subSt s1 st'))
def Pv (rule:Nat)(sq:Sq)(f:Fm)(u:Tm)(n:ByteArray)(sub:List Tr)(IH:∀a∈sub,FF gl a):FF gl (.mk rule sq f u n sub):=by
 intro x hx b2 b3 b4 aV aU D g G ca bg am I S k0 p hy ax s ao hI hst;have bb:=hx;obtain⟨tl,xl,tr,xr,op,fn,ta,xa,tb,xb,v,un,tu,xu,ts,xs,U,bP,_,_,_,_,_,_,e3,i3⟩:=hx.mk;obtain⟨a,e,hp,ae,ab,rfl⟩:=hst;simp only[Tr.walk] at hy ⊢;have ac:=hy 0 p _ _ a e s rfl bb hp ae hI;have a8:=FOkL.tail hy;have r2:join (join s e) (ownF 81 b2 b3 b4 (.fn g G ca) a) b2=some (.box [.fn g G ca]):=eS (vh aV aU);have r3:join (join s e) (ownF 81 b2 b3 b4 (.fn g G ca) a) b3=some (.box [a]):=eS (iE D);refine ICall.intro (c:=cf prog gl [23,24] []) func81 rfl (by show _<=39;simp) (by kernel_rfl) ?_;have be:ivOf a=some a:=by rcases hp with⟨t,rfl,_⟩|⟨g,cap,cs,rfl,_⟩<;>rfl
 rw[U] at ac;simp only[go_sem,zE,reduceCtorEq,r2,r3,be,U];refine lF am (ac.frame ab |>.mono ?_);rintro r ao ⟨s2,aO,rfl,(⟨rfl,s3,bk,bh,rfl⟩|⟨rfl,hS⟩)⟩
 ·simp only[go_sem,reduceCtorEq,i3.len];intro bo;refine dj sub.length (λk fr st' ds=>(∃s,I (k0+1+(ek p 0 (sub.take k)).length) s/\nc 81 b2 b3 b4 (.fn g G ca) p s st')/\fr 0=.iv (.cptr x)/\fr 1=.iv (.raw (.pointer (some ⟨b2,0,none⟩)))/\fr 2=.iv (.raw (.pointer (some ⟨b3,0,none⟩)))/\fr 3=.iv (.raw (.pointer (some ⟨b4,0,none⟩)))/\fr 16=sub.length/\fr 17=.iv (.raw (.int .i64 k))/\ds=[]) ?_ ?_ ?_
  ·simp only[go_sem,zE,reduceCtorEq,U];exact⟨⟨s3,by simpa[ek] using bk,a,e,hp,bh,aO,rfl⟩,rfl⟩
  ·rintro k fr a1 _ aa ⟨⟨s,hI,a,e,hp,ae,ab,rfl⟩,f0,f1,f2,f3,f16,f17,rfl⟩;rw[U] at f0;obtain⟨t,ht⟩:=dB aa;obtain⟨z,aN,hz⟩:=i3.get ht;have r3:join (join s e) (ownF 81 b2 b3 b4 (.fn g G ca) a) b3=some (.box [a]):=eS (iE D);have bO:=zX (lMg ht);simp only[Tr.height] at ax;have ai:ek p 0 sub=ek p 0 (sub.take k)++(t.walk (p++[k])++ek p (k+1) (sub.drop (k+1))):=by
    conv=>lhs;rw[<- el k sub,fa aa]
    rw[oR,(lGs ht).2,show (sub.take k).length=k by rw[dQ];omega];simp only[ek,ee]
   have aL:=a8;rw[ai] at aL;have af:=λao hF=>IH t (lMg ht) z hz b2 b3 b4 aV aU D g G ca bg am I S _ (p++[k]) (FOkL.left (FOkL.right aL)) (by rw[lLa];simp only[jC];omega) s ao hI hF;have al:IntKind.i64.wrap (((p.length+1:Nat):Int)-1)=(p.length:Nat):=by rw[w64 (by omega) (by omega)];omega
   have a7:∃c0 c1 c2 c3 c4 c5 c6 c7 c8 c9 aY aX,z=.agg [c0,c1,c2,c3,c4,c5,c6,c7,c8,c9,aY,aX]:=by
    obtain⟨r',s',m',t',n',b'⟩:=t;obtain⟨bF,bu,bD,bt,bL,bR,bH,bx,bG,bw,v',bA,bB,br,bC,bs,rfl,_⟩:=hz.mk;exact⟨_,_,_,_,_,_,_,_,_,_,_,_,rfl⟩
   obtain⟨c0,c1,c2,c3,c4,c5,c6,c7,c8,c9,aY,aX,rfl⟩:=a7;rcases hp with⟨t0,rfl,hta,av,rfl⟩|⟨E,cap,cs,rfl,rfl,bj,bQ,bi⟩
   ·obtain⟨fs,c,es⟩:=t0;obtain rfl:c=.nil:=hta;have bd:join s emp=s:=rfl;rw[bd] at r3 ab ⊢;simp only[go_sem,zE,zA,zM,zL,reduceCtorEq,f0,f2,f3,f16,f17,lt_i aa,r3,U,su];intro E cap;refine d_ λhg=>?_;obtain⟨hg,aS⟩:=hg;change join s (ownF 81 b2 b3 b4 (.fn g G ca) (.sl ⟨fs,.nil,es⟩ [])) E=none at hg;have aQ:disj s (ownF 81 b2 b3 b4 (.fn g G ca) (.sl ⟨fs,.nil,es⟩ [])):=ab;have A:ownF 81 b2 b3 b4 (.fn g G ca) (.sl ⟨fs,.nil,es⟩ []) E=none:=by
     cases ho:ownF 81 b2 b3 b4 (.fn g G ca) (.sl ⟨fs,.nil,es⟩ []) E with
     | none=>rfl
     | some o=>rw[eS ho] at hg;cases hg
    have bf:s E=none:=by rw[<- fO (stu:=s) A];exact hg
    have aD:b3≠E:=by rintro rfl;rw[iE D] at A;cases A
    have hF:=vm (fy:=.fn g G ca) (p:=p++[k]) (a':=.raw (.slice (some ⟨E,0,none⟩) 1 cap)) (cs:=.raw (.int .i64 k)::List.replicate (cap-1) .junk) D aQ bf A (.inr ⟨E,cap,_,by rw[av];rfl,rfl,by simpa[av] using aS,by simp;omega,by simp[plI,av]⟩);have aC:b4≠E:=by rintro rfl;rw[mq] at A;cases A
    have au:∀o,((join s (ownF 81 b2 b3 b4 (.fn g G ca) (.sl ⟨fs,.nil,es⟩ []))).put E o) b3=some (.box [.sl ⟨fs,.nil,es⟩ []]):=λo=>by rw[ISt.put_apply,a_ aD];exact r3
    have aq:∀o o',(((join s (ownF 81 b2 b3 b4 (.fn g G ca) (.sl ⟨fs,.nil,es⟩ []))).put E o).put b3 o') b4=some (.box [k_ 81 b2 b3 b4]):=λo o'=>by rw[ISt.put_apply,a_ D.symm,ISt.put_apply,a_ aC];exact eS mq
    simp only[go_sem,zL,IV.one,eC,List.flatMap_nil,IV.cells,fR,au,aq,aN,dz e3,iNn,k_];refine (af _ hF).mono ?_;rintro _ aZ (⟨rfl,s1,aF,aG⟩|⟨rfl,s1,aE,O⟩)
    ·obtain⟨a2,e2,hp2,az,ay,rfl⟩:=aG;obtain⟨g3,J,cs3,rfl,rfl,ag,aB,aA⟩:=hp2.cons;have r6:join (join s1 (emp.put g3 (some (.box cs3)))) (ownF 81 b2 b3 b4 (.fn g G ca) (.raw (.slice (some ⟨g3,0,none⟩) (p.length+1) J))) b3=some (.box [.raw (.slice (some ⟨g3,0,none⟩) (p.length+1) J)]):=eS (iE D);simp only[go_sem,zE,zL,reduceCtorEq,IV.one,r6,f0,f1,f2,f3,f16,f17,al,qx ag,ite_self,gL,ag,dC aa (by omega)];refine⟨s1,?_,?_⟩
     ·rw[dE ht,oR,lLa,show (sub.take k).length=k by rw[dQ];omega];simp only[ek,eo,ee];rw[<- fE];exact aF
     ·rw[qw D];exact⟨_,_,.inr ⟨g3,J,cs3,rfl,rfl,by omega,aB,aA⟩,az,λb hb=>ay b λh=>hb ((nZ _).1 h),rfl⟩
    ·simp only[go_sem];exact c_ (.inr ⟨rfl,s1,aE,O⟩)
   ·have ho:ownF 81 b2 b3 b4 (.fn g G ca) (.raw (.slice (some ⟨E,0,none⟩) p.length cap)) E=none:=by
     cases ho:ownF 81 b2 b3 b4 (.fn g G ca) (.raw (.slice (some ⟨E,0,none⟩) p.length cap)) E with
     | none=>rfl
     | some o =>
      have:=ab E (by rw[ho];simp);rw[eS (b_ ..)] at this;cases this
    have aM:s E=none:=ae E (by rw[b_];simp);have r5:join (join s (emp.put E (some (.box cs)))) (ownF 81 b2 b3 b4 (.fn g G ca) (.raw (.slice (some ⟨E,0,none⟩) p.length cap))) E=some (.box cs):=by
     rw[fO ho,eS (b_ ..)]
    simp only[go_sem,zE,zA,zM,zL,f2,f16,f17,lt_i aa,r3,U,su];refine kU _ _ _ r5 (by simp[fits,IV.one]) ⟨by show (_+1)*8<=_;omega,by show _+1<=_;omega⟩ ⟨bj,by show _*1<=_;omega⟩ (by simp[IV.cells]) ?_;intro g2 an aW A k1 k2 k3;rw[GM aM ho];have aj:s g2=none/\ownF 81 b2 b3 b4 (.fn g G ca) (.raw (.slice (some ⟨E,0,none⟩) p.length cap)) g2=none:=by
     rcases A with rfl|A
     ·exact⟨aM,ho⟩
     ·cases hq:ownF 81 b2 b3 b4 (.fn g G ca) (.raw (.slice (some ⟨E,0,none⟩) p.length cap)) g2 with
      | some o=>rw[eS hq] at A;cases A
      | none =>
       rw[fO hq] at A;refine⟨?_,rfl⟩;cases hz:s g2 with
       | none=>rfl
       | some o=>rw[ix ae g2 o hz] at A;cases A
    have bc:disj s (ownF 81 b2 b3 b4 (.fn g G ca) (.raw (.slice (some ⟨E,0,none⟩) p.length cap))):=λb hb=>by
     have:=ab b hb;cases hz:s b with
     | none=>rfl
     | some o=>rw[ix ae b o hz] at this;cases this
    have hF:=vm (fy:=.fn g G ca) (p:=p++[k]) (a':=.raw (.slice (some ⟨g2,0,none⟩) (p.length+1) an)) (cs:=aW) D bc aj.1 aj.2 (.inr ⟨g2,an,aW,by simp,rfl,by simpa using k1,by simpa using k2,by
     simp only[fR] at k3;rw[lLa];exact k3.trans (by rw[bi];simp[plI,IV.cells])⟩)
    have aD:b3≠g2:=by rintro rfl;have:=aj.2;rw[iE D] at this;cases this
    have aC:b4≠g2:=by rintro rfl;have:=aj.2;rw[mq] at this;cases this
    have au:∀o,((join s (ownF 81 b2 b3 b4 (.fn g G ca) (.raw (.slice (some ⟨E,0,none⟩) p.length cap)))).put g2 o) b3=some (.box [.raw (.slice (some ⟨E,0,none⟩) p.length cap)]):=λo=>by rw[ISt.put_apply,a_ aD];exact eS (iE D)
    have aq:∀o o',(((join s (ownF 81 b2 b3 b4 (.fn g G ca) (.raw (.slice (some ⟨E,0,none⟩) p.length cap)))).put g2 o).put b3 o') b4=some (.box [k_ 81 b2 b3 b4]):=λo o'=>by rw[ISt.put_apply,a_ D.symm,ISt.put_apply,a_ aC];exact eS mq
    simp only[go_sem,zE,zL,reduceCtorEq,IV.one,IV.cells,au,aq,f0,f2,f3,aN,dz e3,iNn,fits,k_];refine (af _ hF).mono ?_;rintro _ aZ (⟨rfl,s1,aF,aG⟩|⟨rfl,s1,aE,O⟩)
    ·obtain⟨a2,e2,hp2,az,ay,rfl⟩:=aG;obtain⟨g3,J,cs3,rfl,rfl,ag,aB,aA⟩:=hp2.cons;have r6:join (join s1 (emp.put g3 (some (.box cs3)))) (ownF 81 b2 b3 b4 (.fn g G ca) (.raw (.slice (some ⟨g3,0,none⟩) (p.length+1) J))) b3=some (.box [.raw (.slice (some ⟨g3,0,none⟩) (p.length+1) J)]):=eS (iE D);simp only[go_sem,zE,zL,reduceCtorEq,IV.one,r6,f0,f1,f2,f3,f16,f17,al,qx ag,ite_self,gL,ag,dC aa (by omega)];refine⟨s1,?_,?_⟩
     ·rw[dE ht,oR,lLa,show (sub.take k).length=k by rw[dQ];omega];simp only[ek,eo,ee];rw[<- fE];exact aF
     ·rw[qw D];exact⟨_,_,.inr ⟨g3,J,cs3,rfl,rfl,by omega,aB,aA⟩,az,λb hb=>ay b λh=>hb ((nZ _).1 h),rfl⟩
    ·simp only[go_sem];exact c_ (.inr ⟨rfl,s1,aE,O⟩)
  ·rintro fr a1 _ ⟨⟨s,hI,hF⟩,f0,f1,f2,f3,f16,f17,rfl⟩;rw[lTl] at hI;simp only[go_sem,f16,f17,dF (nLi _)];refine c_ (.inl ⟨rfl,s,?_,hF⟩);rw[show k0+((ek p 0 sub).length+1)=k0+1+(ek p 0 sub).length by omega];exact hI
 ·simp only[go_sem];exact c_ (.inr ⟨rfl,s2,hS,ix aO⟩)
def GN:∀(k:Nat)(t:Tr),SizeOf.sizeOf t<k->FF gl t
 | 0,t,h=>by omega
 | k+1,.mk r sq f u n sub,h=>Pv gl r sq f u n sub (λa A=>GN k a (by
   have:=lSm A;simp at h;omega))
def Pw (t:Tr):FF gl t:=GN gl _ t (ew _)
def Px (t:Tr)(x:IV)(hx:IsTr t x)(hd:t.height<=1099511627776)(I:Nat->ISt->Prop):IterL prog gl 80 [] [.cptr (.cptr x)] (lkT (t.walk [])) (t.walk []).length I:=by
 rintro y I' S' st ⟨g,fi,ca,rfl,al,ae⟩ _ hy h0;have J:=Pw gl t x hx;have ak:FOkL gl .cptr (.fn g fi ca) I' S' 0 (t.walk []):=λi p t x a e stu hi ht hp am hI=>by
  rw[ee] at hI ⊢;exact hy i [a,.cptr x] e stu ⟨p,t,a,x,hi,ht,hp,rfl⟩ am hI
 have aj:∃c0 c1 c2 c3 c4 c5 c6 c7 c8 c9 ai ah,x=.agg [c0,c1,c2,c3,c4,c5,c6,c7,c8,c9,ai,ah]:=by
  obtain⟨r',s',m',t',n',b'⟩:=t;obtain⟨aJ,aC,aI,aB,aN,aS,aL,aE,aK,aD,v',aF,aG,az,aH,aA,rfl,_⟩:=hx.mk;exact⟨_,_,_,_,_,_,_,_,_,_,_,_,rfl⟩
 obtain⟨c0,c1,c2,c3,c4,c5,c6,c7,c8,c9,ai,ah,rfl⟩:=aj;change ICall prog gl _ [.fn g fi ca,_] st _;refine ICall.intro (c:=cf prog gl [2,3,4] []) func80 rfl (by show _<=9;simp) (by kernel_rfl) ?_;simp only[go_sem,zE,zL,fits];intro b2;refine d_ λaq=>?_;intro b3;refine d_ λD=>?_;intro b4;refine d_ λA=>?_;have E:b2≠b3:=by rintro rfl;rw[b_] at D;cases D
 have O:b3≠b4:=by rintro rfl;rw[b_] at A;cases A
 have U:b2≠b4:=by rintro rfl;rw[ISt.put_apply,a_ E,b_] at A;cases A
 rw[ISt.put_apply,a_ E.symm] at D;rw[ISt.put_apply,a_ O.symm,ISt.put_apply,a_ U.symm] at A;have hF:nc 81 b2 b3 b4 (.fn g fi ca) [] st ((((st.put b2 (some (.box [.fn g fi ca]))).put b3 (some (.box [()]))).put b4 (some (.box [.raw .nilFunc]))).put b4 (some (.box [k_ 81 b2 b3 b4]))):=by
  refine⟨_,emp,.inl ⟨⟨true,.nil,0⟩,rfl,rfl,rfl,rfl⟩,λb hb=>absurd rfl hb,λb hb=>?_,?_⟩
  ·show st b=none;by_cases G:b=b4
   ·rw[G];exact A
   ·by_cases q3:b=b3
    ·rw[q3];exact D
    ·by_cases q2:b=b2
     ·rw[q2];exact aq
     ·exact absurd (vj q2 q3 G) hb
  ·funext c;by_cases G:c=b4
   ·rw[G,b_,eS mq]
   ·rw[ISt.put_apply,a_ G,ISt.put_apply,a_ G];by_cases q3:c=b3
    ·rw[q3,b_,eS (iE O)]
    ·rw[ISt.put_apply,a_ q3];by_cases q2:c=b2
     ·rw[q2,b_,eS (vh E U)]
     ·rw[ISt.put_apply,a_ q2,fO (vj q2 q3 G)];rfl
 refine (J b2 b3 b4 E U O g fi ca al ae I' S' 0 [] ak (by simpa using hd) st _ h0 hF).mono ?_;rintro r aM (⟨rfl,s1,af,a,e,_,ao,an,rfl⟩|⟨rfl,s1,av,ac⟩)
 ·simp only[go_sem];rw[ee] at af;exact ez ((ix ao).trans (ix an)) (.inl af)
 ·simp only[go_sem];exact ez ac (.inr av)
def Py (x:IV)(st:ISt)(t:Tr)(hx:IsTr t x):ICall prog gl 56 [.cptr x] st (λr st'=>r=.fn (.func 80) [] [.cptr (.cptr x)]/\st'=st):=by
 have E:∃c0 c1 c2 c3 c4 c5 c6 c7 c8 G D A,x=.agg [c0,c1,c2,c3,c4,c5,c6,c7,c8,G,D,A]:=by
  obtain⟨r',s',m',t',n',b'⟩:=t;obtain⟨ai,aa,ah,U,al,an,ak,ac,aj,ab,v',ae,af,J,ag,O,rfl,_⟩:=hx.mk;exact⟨_,_,_,_,_,_,_,_,_,_,_,_,rfl⟩
 obtain⟨c0,c1,c2,c3,c4,c5,c6,c7,c8,G,D,A,rfl⟩:=E;refine ICall.intro (c:=cf prog gl [] [] [1]) func56 rfl (by show _<=4;simp) (by kernel_rfl) ?_;simp only[go_sem,zE];exact c_ ⟨rfl,rfl⟩
def Pz (t:Tag)(ht:t.cap=.nil)(st:ISt):ICall prog gl 39 [.sl t []] st (λr st'=>(∃A,r=.sl A (plI [])/\okEs A 1)/\st'=st):=by
 obtain⟨E,c,es⟩:=t;obtain rfl:c=.nil:=ht;refine iI func39 ?_;have D:binV prog 42 .eql (.sl ⟨E,.nil,es⟩ []) ()=some (.raw (.bool true)):=by
  have:nq prog 42=true:=by kernel_rfl
  simp[binV,kx,this]
 simp only[go_sem,reduceCtorEq,D];exact c_ ⟨⟨_,rfl,.inl rfl⟩,rfl⟩
def PA (g:Nat)(p:List Nat)(hp:p≠[])(hl:p.length<=1099511627776)(st:ISt):ICall prog gl 39 [.sl ⟨false,.app g,1⟩ (plI p)] st (λr st'=>(∃D,r=.sl D (plI p)/\okEs D 1)/\st'=st):=by
 obtain⟨i,p,rfl⟩:∃i q,p=i::q:=by
  cases p with
  | nil=>exact absurd rfl hp
  | cons i q=>exact⟨i,q,rfl⟩
 refine iI func39 ?_;have E:binV prog 42 .eql (.sl ⟨false,.app g,1⟩ (plI (i::p))) (.sl ⟨true,.nil,0⟩ [])=some (.raw (.bool false)):=by
  have:nq prog 42=true:=by kernel_rfl
  simp[binV,kx,this]
 have O:(plI (i::p)).all (fits false 1)=true:=by simp[plI,fits,IV.one]
 simp only[dV] at hl;have U:plI (i::p)=.raw (.int .i64 (i:Int))::plI p:=rfl;have G:=ir p;have A:(plI p).all (fits false 1)=true:=by simp[plI,fits,IV.one]
 rw[U] at E O ⊢;simp only[go_sem,zE,zA,zM,zL,reduceCtorEq,fits,E];exact fJ rfl (fJ A (fJ ⟨by omega,by omega⟩ λg'=>d_ λJ=>ez (ff J) ⟨⟨_,rfl,.inr rfl⟩,rfl⟩))
def GO {R:Rt}{st:ISt}{ds:List Dfd}(esc:List Nat)(dst:Option Nat)(e:TypeId×Bool×Nat×Nat)(D:Bool)(es:Nat)(A:List IV):appV esc dst e ⟨D,.full,es⟩ A [] R st ds =
 chk (([]:List IV).all (fits e.2.1 e.2.2.1)=true) (chk ((A.length+0)*e.2.2.2<=140737488355328/\A.length+0<=140737488355328) (chk (es=e.2.2.1) (R (.val (.sl ⟨D,.full,es⟩ A)) st ds))):=rfl
def PB (g:Nat)(st:ISt):ICall prog gl 39 [.sl ⟨false,.app g,1⟩ (plI [])] st (λr st'=>(∃A,r=.sl A (plI [])/\okEs A 1)/\st'=st):=by
 have D:binV prog 42 .eql (.sl ⟨false,.app g,1⟩ (plI [])) ()=some (.raw (.bool false)):=by
  have:nq prog 42=true:=by kernel_rfl
  simp[binV,kx,this]
 rw[show plI []=[] from rfl] at D ⊢;refine iI func39 ?_;simp only[go_sem,zE,zA,zM,zL,reduceCtorEq,D,GO];exact fJ rfl (c_ ⟨⟨_,rfl,.inr rfl⟩,rfl⟩)
def GP {s e:ISt}(h:disj s e):join s e=join e s:=by
 funext b;cases A:e b with
 | none =>
  rw[fO A];cases hs:s b with
  | none=>rw[fO hs,A]
  | some o=>rw[eS hs]
 | some o=>rw[eS A,fO (h b (by rw[A];simp)),A]
def vn:∀p:List Nat,ages (plI p)=plI p
 | []=>by simp only[plI,fx,ages]
 | i::p=>by
  have:=vn p;simp only[plI,ec,ages,age] at this ⊢;rw[this]
def zY:∀p:List Nat,(plI p).flatMap IV.cells=plI p
 | []=>rfl
 | i::p=>by
  have:=zY p;simp only[plI,ec,eC,IV.cells,List.singleton_append] at this ⊢;rw[this]
def GQ (p:List Nat)(a:IV)(e s:ISt)(hp:PlV p a e)(hl:p.length<=1099511627776)(hd:disj s e):ICall prog gl 39 [a] (join s e) (λr st'=>(∃A,r=.sl A (plI p)/\okEs A 1)/\st'=s):=by
 have key:ICall prog gl 39 [a] e (λr st'=>(∃A,r=.sl A (plI p)/\okEs A 1)/\st'=emp):=by
  rcases hp with⟨t,rfl,ht,rfl,rfl⟩|⟨g,cap,cs,rfl,rfl,h1,h2,h3⟩
  ·exact Pz gl t ht emp
  ·have J:j0 (emp.put g (some (.box cs)))=emp:=by
    funext b;by_cases E:b=g
    ·rw[E,rf (b_ ..)];rfl
    ·have:(emp.put g (some (.box cs))) b=none:=by rw[ISt.put_apply,a_ E];rfl
     rw[tN (λcs' h=>by rw[this] at h;cases h),this];rfl
   refine ri (args':=[.sl ⟨false,.app g,1⟩ (plI p)]) ⟨_,_,rfl,.inr ⟨.sl ⟨true,.app g,1⟩ (plI p),?_,?_⟩,rfl⟩ ?_
   ·rw[<- ir p];refine .sl g cap ⟨true,.app g,1⟩ (plI p) cs rfl (by rw[ir];omega) (by rw[ir];exact h1) (λx O=>?_) (b_ ..) (by simpa using h2) λi r c G hc=>?_
    ·obtain⟨i,_,rfl⟩:=dH.1 O;rfl
    ·rw[zY p] at hc;have U:i<p.length:=by
      have:=(lGs hc).1
      rwa [ir] at this
     have:(cs.take p.length)[i]?=cs[i]?:=by rw[gg,cV U]
     rw[h3,hc,G] at this;cases this;exact .refl _
   ·simp only[age,vn]
   ·rw[J];by_cases D:p=[]
    ·subst D;exact PB gl g emp
    ·exact PA gl g p D hl emp
 have h1:=key.frame (own:=s) (λb E=>by
  cases he:e b with
  | none=>rfl
  | some o=>exact absurd (hd b (by rw[he];simp)) E)
 rw[GP hd];refine h1.mono ?_;rintro r st' ⟨stu,_,rfl,G,rfl⟩;refine⟨G,?_⟩;funext b;cases hs:s b with
 | none=>rw[fO hs];rfl
 | some o=>rw[eS hs]
def oS:Tr->Prop
 | .mk _ s m u _ sub=>fW s/\m.size<=1000000/\u.size<=1000000/\∀a∈sub,fW a.sq
def n_ (t:Tr):Prop:=(∀q∈t.walk [],oS q.2)/\t.height<=1099511627776
def PC (G:Gl gl)(T:Gt gl)(ca:Nat)(t:Tr)(x:IV)(D:IsTr t x)(A:oS t)(st:ISt):ICall prog gl 57 [.raw (.int .u8 ca),.cptr x] st (λr st'=>r=(fP ca t:Int)/\st'=st):=by
 obtain⟨rule,s,m,u,n,sub⟩:=t;exact Nd gl G T ca rule s m u n sub x D A.1 A.2.1 A.2.2.1 A.2.2.2 st
def eT {t:Tr}{x:IV}(h:IsTr t x):∃(rule:Nat) (tl:Tag) (xl:List IV) (tr:Tag) (O:List IV) (op:Int) (fn:ByteArray) (ta:Tag) (xa:List IV) (tb:Tag) (xb:List IV) (v:Bool) (un:ByteArray) (tu:Tag) (D:List IV) (n:ByteArray) (ts:Tag) (G:List IV),
  x=.agg [.raw (.int .u8 rule),.sl tl xl,.sl tr O,.raw (.int .u8 op),fn,.sl ta xa,.sl tb xb,v,un,.sl tu D,n,.sl ts G]:=by
 obtain⟨r',s',m',t',n',b'⟩:=t;obtain⟨al,U,ak,J,aq,au,ao,ac,am,aa,v',af,ah,A,aj,E,rfl,_⟩:=h.mk;exact⟨_,_,_,_,_,_,_,_,_,_,_,_,_,_,_,_,_,_,rfl⟩
mutual
def sv:∀(p:List Nat)(t:Tr),(t.walk p).length=t.steps
 | p,.mk _ _ _ _ _ sub=>by simp only[Tr.walk,Tr.steps,dV,zZ p 0 sub];omega
def zZ:∀(p:List Nat)(i:Nat)(l:List Tr),(ek p i l).length=fj l
 | _,_,[]=>rfl
 | p,i,a::l=>by simp only[ek,fj,lLa,sv (p++[i]) a,zZ p (i+1) l]
end
mutual
def oT:∀(q:List Nat)(t:Tr)(x:List Nat×Tr),x∈t.walk q->x.1.length+1<=q.length+t.height
 | q,.mk _ _ _ _ _ sub,x,h=>by
  simp only[Tr.walk,dN] at h;simp only[Tr.height];rcases h with rfl|h
  ·simp only;omega
  ·have:=GR q 0 sub x h;omega
def GR:∀(q:List Nat)(i:Nat)(l:List Tr)(x:List Nat×Tr),x∈ek q i l->x.1.length<=q.length+lO l
 | _,_,[],x,h=>by simp[ek] at h
 | q,i,a::l,x,h=>by
  simp only[ek,dR] at h;simp only[lO];rcases h with h|h
  ·have:=oT (q++[i]) a x h;rw[lLa] at this;simp only[jC] at this;omega
  ·have:=GR q (i+1) l x h;omega
end
def CkI (st:ISt)(b2 b4 D A ca c:Nat)(s:ISt):Prop:=s b2=some (.box [.raw (.int .u8 ca)])/\s b4=some (.box [()])/\s D=some (.box [(0:Int)])/\s A=some (.box [c])/\subSt st s
def CkS (st:ISt)(b4 D:Nat)(q:List Nat×Nat)(e:Exit)(s:ISt):Prop:=e=.ret/\(∃A,s b4=some (.box [.sl A (plI q.1)])/\okEs A 1)/\s D=some (.box [q.2])/\subSt st s
def GS (G:Gl gl)(T:Gt gl)(ca:Nat)(t:Tr)(x:IV)(hx:IsTr t x)(ag:n_ t)(st:ISt):ICall prog gl 29 [.raw (.int .u8 ca),x] st (λr st'=>(∃tg,r=.tup [.sl tg (plI (gS ca t).1),.raw (.int .i64 (gS ca t).2)]/\okEs tg 1)/\st'=st):=by
 have hst:=λst=>Py gl x st t hx;have aq:=λI=>Px gl t x hx ag.2 I;have aG:=λst=>yP gl ca st;obtain⟨rule,tl,xl,tr,xr,op,fn,ta,xa,tb,xb,v,un,tu,xu,n,ts,xs,rfl⟩:=eT hx;refine ICall.intro (c:=cf prog gl [2,4,5,6] [] [3]) func29 rfl (by show _<=31;simp) (by kernel_rfl) ?_;simp only[go_sem,zE,zA,IV.one];intro b2;refine d_ λaK=>?_;intro b4;refine d_ λac=>?_;intro b5;refine d_ λE=>?_;have al:b2≠b4:=by rintro rfl;rw[b_] at ac;cases ac
 have ae:b4≠b5:=by rintro rfl;rw[b_] at E;cases E
 have ay:b2≠b5:=by rintro rfl;rw[ISt.put_apply,a_ al,b_] at E;cases E
 rw[ISt.put_apply,a_ al.symm] at ac;rw[ISt.put_apply,a_ ae.symm,ISt.put_apply,a_ ay.symm] at E;obtain⟨s1,aE,f2,f4,f5,af⟩:∃s1,s1=((st.put b2 (some (.box [.raw (.int .u8 ca)]))).put b4 (some (.box [()]))).put b5 (some (.box [(0:Int)]))/\s1 b2=some (.box [.raw (.int .u8 ca)])/\s1 b4=some (.box [()])/\s1 b5=some (.box [(0:Int)])/\subSt st s1 :=
  ⟨_,rfl,by simp only[ISt.put_apply,a_ al,a_ ay,dD],by simp only[ISt.put_apply,a_ ae,dD],by simp only[ISt.put_apply,dD],eA (eA (eA (subSt.refl st) aK) ac) E⟩
 rw[<- aE];simp only[go_sem,f2];refine (aG _).mono ?_;rintro _ am ⟨rfl,rfl⟩;have g5:∀(s:ISt) o,(s.put b4 o) b5=s b5:=λs o=>by rw[ISt.put_apply,a_ ae.symm]
 have g4:∀(s:ISt) o o',((s.put b4 o).put b5 o') b4=o:=λs o o'=>by rw[ISt.put_apply,a_ ae,b_]
 have J:∀(s:ISt) o o',subSt st s->subSt st ((s.put b4 o).put b5 o'):=λs o o' h=>eA (eA h ac) E;cases hk:gv ca
 ·have hq:gS ca t=([],2):=by unfold gS;rw[hk];rfl
  simp only[go_sem,zE,zL,f4,f5,g5,g4,b_];exact ez (J _ _ _ af) ⟨⟨_,by rw[hq];rfl,.inl rfl⟩,rfl⟩
 ·simp only[go_sem,zE,zA,zL];intro b6;refine d_ λD=>?_;rw[eN];refine (hst _).mono ?_;rintro _ _ ⟨rfl,rfl⟩;have ax:b2≠b6:=by rintro rfl;rw[f2] at D;cases D
  have ak:b4≠b6:=by rintro rfl;rw[f4] at D;cases D
  have aj:b5≠b6:=by rintro rfl;rw[f5] at D;cases D
  have ah:st b6=none:=by
   cases hq:st b6 with
   | none=>rfl
   | some o=>rw[af b6 o hq] at D;cases D
  have aw:CkI st b2 b4 b5 b6 ca 0 (am.put b6 (some (.box [(0:Int)]))):=⟨by rw[ISt.put_apply,a_ ax];exact f2,by rw[ISt.put_apply,a_ ak];exact f4,by rw[ISt.put_apply,a_ aj];exact f5,b_ ..,eA af ah⟩
  generalize am.put b6 (some (.box [(0:Int)]))=s2 at aw ⊢;simp only[go_sem,reduceCtorEq];refine RangeL.intro (lkT (t.walk [])) (t.walk []).length (λk s=>CkI st b2 b4 b5 b6 ca k s/\k<=300) (λe s=>CkS st b4 b5 ([],5) e s/\300<t.steps) rfl ?_ ?_ ?_ (aq _) ?_ ?_
  ·rintro k a e ⟨p,u,a,y,_,_,_,rfl⟩;rfl
  ·exact⟨aw,by omega⟩
  ·rintro k _ e s ⟨p,z,a,y,O,hz,hp,rfl⟩ hd ⟨⟨c2,c4,c5,c6,A⟩,an⟩;have U:disj s e:=hd;have r6:=ix U _ _ c6;have r4:=ix U _ _ c4;have r5:=ix U _ _ c5;have e6:e b6=none:=ISt.disj.off hd c6;have hw:IntKind.i64.wrap ((k:Int)+1)=((k+1:Nat):Int):=by rw[w64]<;>omega
   have q4:∀o,((join s e).put b6 o) b4=some (.box [()]):=λo=>by rw[dw ak];exact r4
   have q5:∀o o',(((join s e).put b6 o).put b4 o') b5=some (.box [(0:Int)]):=λo o'=>by rw[dw ae.symm,dw aj];exact r5
   by_cases aQ:300<k+1
   ·have hb:decide ((300:Int)<((k+1:Nat):Int))=true:=dEt (by omega);simp only[go_sem,zE,zL,r6,hw,b_,hb,q4,q5];refine⟨⟨rfl,⟨⟨true,.nil,0⟩,?_,.inl rfl⟩,b_ ..,eA (eA (eA (A.trans (ix U)) ah) ac) E⟩,?_⟩
    ·rw[dw ae,b_];rfl
    ·have:=(lGs O).1;rw[sv] at this;omega
   ·have hb:decide ((300:Int)<((k+1:Nat):Int))=false:=dEf (by omega);simp only[go_sem,zE,zL,r6,hw,b_,hb];refine⟨s.put b6 (some (.box [((k+1:Nat):Int)])),⟨⟨by rw[dw ax];exact c2,by rw[dw ak];exact c4,by rw[dw aj];exact c5,b_ ..,eA A ah⟩,by omega⟩,ISt.disj.put hd e6,lG e6⟩
  ·rintro s r ⟨⟨c2,c4,c5,c6,A⟩,an⟩;rw[sv] at an;have hq:gS ca t=eV (fP ca) (t.walk []):=by
    unfold gS;rw[hk];simp only[mw,bFt,dI];rw[a_ (by omega)]
   simp only[go_sem,zE,zA];refine (hst _).mono ?_;rintro _ _ ⟨rfl,rfl⟩;simp only[go_sem,reduceCtorEq];refine RangeL.intro (lkT (t.walk [])) (t.walk []).length (λk s=>(s b2=some (.box [.raw (.int .u8 ca)])/\s b4=some (.box [()])/\s b5=some (.box [(0:Int)])/\subSt st s)/\eV (fP ca) ((t.walk []).take k)=([],0)) (λe s=>CkS st b4 b5 (gS ca t) e s) rfl ?_ ?_ ?_ (aq _) ?_ ?_
   ·rintro k a e ⟨p,u,a,y,_,_,_,rfl⟩;rfl
   ·exact⟨⟨c2,c4,c5,A⟩,by simp[eV]⟩
   ·rintro k _ e s ⟨p,z,a,y,O,hz,hp,rfl⟩ hd ⟨⟨c2,c4,c5,A⟩,hf⟩;have U:disj s e:=hd;have r2:=ix U _ _ c2;have aF:=oT [] t _ (lMg O);have bi:=ag.2;simp only[dU] at aF;have aJ:=λst=>PC gl G T ca z y hz (ag.1 _ (lMg O)) st;have aI:=GQ gl p a e s hp (by omega) U;have ao:ivOf a=some a:=by rcases hp with⟨t,rfl,_⟩|⟨g,cap,cs,rfl,_⟩<;>rfl
    obtain⟨aA,a8,aW,a7,aV,bh,bj,bb,aY,ba,aX,v',aZ,a1,aT,n',a6,aU,rfl⟩:=eT hz;simp only[go_sem,zE,zA,r2,ao];refine (aJ _).mono ?_;rintro _ _ ⟨rfl,rfl⟩;by_cases h0:fP ca z=0
    ·have d0:decide (((fP ca z:Nat):Int)=0)=true:=dEt (by omega);simp only[go_sem,d0];refine⟨s,⟨⟨c2,c4,c5,A⟩,?_⟩,hd,rfl⟩;rw[dE O,nO,hf];simp[eV,h0]
    ·have d0:decide (((fP ca z:Nat):Int)=0)=false:=dEf (by omega);have hv:gS ca t=(p,fP ca z):=by
      rw[hq]
      conv=>lhs;rw[<- el k (t.walk [])]
      rw[fa (lGs O).1,(lGs O).2,nO,hf];simp[eV,h0]
     simp only[go_sem,zE,zA,d0,ao];refine aI.mono ?_;rintro _ _ ⟨⟨t',rfl,aD⟩,rfl⟩;simp only[go_sem,zE,zL,c4,c5,g5];refine⟨rfl,⟨t',?_,aD⟩,?_,J _ _ _ A⟩
     ·rw[g4,hv]
     ·rw[b_,hv]
   ·rintro s r ⟨⟨c2,c4,c5,A⟩,hf⟩;rw[lTl,<- hq] at hf;simp only[go_sem,zE,zL,c4,c5,g5,g4,b_];exact ez (J _ _ _ A) ⟨⟨_,by rw[hf];rfl,.inl rfl⟩,rfl⟩
   ·rintro e s r ⟨rfl,⟨tg,c4,ht⟩,c5,A⟩;simp only[go_sem,zE,c4,c5];exact ez A ⟨⟨_,rfl,ht⟩,rfl⟩
  ·rintro e s r ⟨⟨rfl,⟨tg,c4,ht⟩,c5,A⟩,hb⟩;have hq:gS ca t=([],5):=by unfold gS;rw[hk,cV hb];rfl
   simp only[go_sem,zE,c4,c5];exact ez A ⟨⟨_,by rw[hq],ht⟩,rfl⟩
def PlA (p:List Nat)(a:IV):Prop:=(∃t,a=.sl t []/\t.cap=.nil/\p=[])\/∃g cap,a=.raw (.slice (some ⟨g,0,none⟩) p.length cap)/\p.length<=cap
def PlV.a {p:List Nat}{a:IV}{e:ISt}(h:PlV p a e):PlA p a:=by
 rcases h with⟨t,h1,h2,A,_⟩|⟨g,cap,cs,h1,_,h2,_⟩
 ·exact .inl ⟨t,h1,h2,A⟩
 ·exact .inr ⟨g,cap,h1,h2⟩
def PlA.cons {p:List Nat}{k:Nat}{a:IV}(h:PlA (p++[k]) a):∃g cap,a=.raw (.slice (some ⟨g,0,none⟩) (p.length+1) cap)/\p.length+1<=cap:=by
 rcases h with⟨_,_,_,h⟩|⟨g,cap,rfl,h⟩
 ·simp at h
 ·rw[lLa] at h ⊢;exact⟨g,cap,rfl,h⟩
def hFF (t:Tr):Prop:=∀(x:IV) (_:IsTr t x) (b2 b3 b4:Nat) (_:b2≠b3) (_:b2≠b4) (_:b3≠b4) (g:Fn) (D ca:List IV) (_:fnOk g=true) (_:∀i,g=.func i->entI prog i=true) (I:Nat->ISt->Prop) (S:ISt->Prop) (k0:Nat) (p:List Nat)
  (_:FOkL gl (λx=>x) (.fn g D ca) I S k0 (t.walk p)) (_:p.length+t.height<=1099511627776) (s A:ISt) (_:I k0 s) (_:nc 64 b2 b3 b4 (.fn g D ca) p s A),
  ICall prog gl 64 [x,.raw (.pointer (some ⟨b2,0,none⟩)),.raw (.pointer (some ⟨b3,0,none⟩)),.raw (.pointer (some ⟨b4,0,none⟩))] A
   (λr st'=>(r=true/\∃s1,I (k0+(t.walk p).length) s1/\nc 64 b2 b3 b4 (.fn g D ca) p s1 st')\/(r=false/\∃s1 a',S s1/\PlA p a'/\disj s1 (ownF 64 b2 b3 b4 (.fn g D ca) a')/\st'=join s1 (ownF 64 b2 b3 b4 (.fn g D ca) a')))
def PD (rule:Nat)(sq:Sq)(f:Fm)(u:Tm)(n:ByteArray)(sub:List Tr)(IH:∀a∈sub,hFF gl a):hFF gl (.mk rule sq f u n sub):=by
 intro x hx b2 b3 b4 aU aT D g J ca bc al I S k0 p hy ay s an hI hst;have a6:=hx;obtain⟨tl,xl,tr,xr,op,fn,ta,xa,tb,xb,v,un,tu,xu,ts,xs,rfl,bL,_,_,_,_,_,_,e3,i3⟩:=hx.mk;obtain⟨a,e,hp,af,ae,rfl⟩:=hst;simp only[Tr.walk] at hy ⊢;have ax:=hy 0 p _ _ a e s rfl a6 hp af hI;have aZ:=FOkL.tail hy;have r2:join (join s e) (ownF 64 b2 b3 b4 (.fn g J ca) a) b2=some (.box [.fn g J ca]):=eS (vh aU aT);have r3:join (join s e) (ownF 64 b2 b3 b4 (.fn g J ca) a) b3=some (.box [a]):=eS (iE D);refine ICall.intro (c:=cf prog gl [25] []) func64 rfl (by show _<=37;simp) (by kernel_rfl) ?_;have ba:ivOf a=some a:=by rcases hp with⟨t,rfl,_⟩|⟨g,cap,cs,rfl,_⟩<;>rfl
 simp only[go_sem,zE,zA,zL,r2,r3,ba];refine lF al (ax.frame ae |>.mono ?_);rintro r an ⟨s2,aO,rfl,(⟨rfl,s3,bg,bd,rfl⟩|⟨rfl,hS⟩)⟩
 ·simp only[go_sem,zE,i3.len];intro bk;refine dj sub.length (λk fr st' ds=>(∃s,I (k0+1+(ek p 0 (sub.take k)).length) s/\nc 64 b2 b3 b4 (.fn g J ca) p s st')/\fr 1=.iv (.raw (.pointer (some ⟨b2,0,none⟩)))/\fr 2=.iv (.raw (.pointer (some ⟨b3,0,none⟩)))/\fr 3=.iv (.raw (.pointer (some ⟨b4,0,none⟩)))/\fr 15=.iv (.sl ts xs)/\fr 16=sub.length/\fr 17=.iv (.raw (.int .i64 k))/\ds=[]) ?_ ?_ ?_
  ·simp only[go_sem,zE];exact⟨⟨s3,by simpa[ek] using bg,a,e,hp,bd,aO,rfl⟩,rfl⟩
  ·rintro k fr aX _ ac ⟨⟨s,hI,a,e,hp,af,ae,rfl⟩,f1,f2,f3,f15,f16,f17,rfl⟩;obtain⟨t,ht⟩:=dB ac;obtain⟨z,aN,hz⟩:=i3.get ht;have r3:join (join s e) (ownF 64 b2 b3 b4 (.fn g J ca) a) b3=some (.box [a]):=eS (iE D);have bK:=zX (lMg ht);simp only[Tr.height] at ay;have ai:ek p 0 sub=ek p 0 (sub.take k)++(t.walk (p++[k])++ek p (k+1) (sub.drop (k+1))):=by
    conv=>lhs;rw[<- el k sub,fa ac]
    rw[oR,(lGs ht).2,show (sub.take k).length=k by rw[dQ];omega];simp only[ek,ee]
   have aL:=aZ;rw[ai] at aL;have ag:=λan hF=>IH t (lMg ht) z hz b2 b3 b4 aU aT D g J ca bc al I S _ (p++[k]) (FOkL.left (FOkL.right aL)) (by rw[lLa];simp only[jC];omega) s an hI hF;have ab:IntKind.i64.wrap (((p.length+1:Nat):Int)-1)=(p.length:Nat):=by rw[w64 (by omega) (by omega)];omega
   obtain⟨aY,bA,bq,bx,bp,bH,bN,bC,bs,bB,br,v',bt,bu,bm,n',bw,bn,rfl⟩:=eT hz;rcases hp with⟨t0,rfl,hta,av,rfl⟩|⟨G,cap,cs,rfl,rfl,bf,bM,be⟩
   ·obtain⟨fs,c,es⟩:=t0;obtain rfl:c=.nil:=hta;have a8:join s emp=s:=rfl;rw[a8] at r3 ae ⊢;simp only[go_sem,zE,zB,zA,zM,zL,f2,f3,f15,f16,f17,lt_i ac,aN,dz e3,iNn,r3,fits,su];intro G cap;refine d_ λhg=>?_;obtain⟨hg,aS⟩:=hg;change join s (ownF 64 b2 b3 b4 (.fn g J ca) (.sl ⟨fs,.nil,es⟩ [])) G=none at hg;have aQ:disj s (ownF 64 b2 b3 b4 (.fn g J ca) (.sl ⟨fs,.nil,es⟩ [])):=ae;have E:ownF 64 b2 b3 b4 (.fn g J ca) (.sl ⟨fs,.nil,es⟩ []) G=none:=by
     cases ho:ownF 64 b2 b3 b4 (.fn g J ca) (.sl ⟨fs,.nil,es⟩ []) G with
     | none=>rfl
     | some o=>rw[eS ho] at hg;cases hg
    have bb:s G=none:=by rw[<- fO (stu:=s) E];exact hg
    have aD:b3≠G:=by rintro rfl;rw[iE D] at E;cases E
    have hF:=vm (fy:=.fn g J ca) (p:=p++[k]) (a':=.raw (.slice (some ⟨G,0,none⟩) 1 cap)) (cs:=.raw (.int .i64 k)::List.replicate (cap-1) .junk) D aQ bb E (.inr ⟨G,cap,_,by rw[av];rfl,rfl,by simpa[av] using aS,by simp;omega,by simp[plI,av]⟩);have aC:b4≠G:=by rintro rfl;rw[mq] at E;cases E
    have au:∀o,((join s (ownF 64 b2 b3 b4 (.fn g J ca) (.sl ⟨fs,.nil,es⟩ []))).put G o) b3=some (.box [.sl ⟨fs,.nil,es⟩ []]):=λo=>by rw[ISt.put_apply,a_ aD];exact r3
    have aq:∀o o',(((join s (ownF 64 b2 b3 b4 (.fn g J ca) (.sl ⟨fs,.nil,es⟩ []))).put G o).put b3 o') b4=some (.box [k_ 64 b2 b3 b4]):=λo o'=>by rw[ISt.put_apply,a_ D.symm,ISt.put_apply,a_ aC];exact eS mq
    simp only[go_sem,zL,IV.one,eC,List.flatMap_nil,IV.cells,fR,au,aq,k_];refine (ag _ hF).mono ?_;rintro _ aW (⟨rfl,s1,aF,aG⟩|⟨rfl,s1,a2,aE,hp2,aa,rfl⟩)
    ·obtain⟨a2,e2,hp2,az,aa,rfl⟩:=aG;obtain⟨U,A,cs3,rfl,rfl,O,aB,aA⟩:=hp2.cons;have r6:join (join s1 (emp.put U (some (.box cs3)))) (ownF 64 b2 b3 b4 (.fn g J ca) (.raw (.slice (some ⟨U,0,none⟩) (p.length+1) A))) b3=some (.box [.raw (.slice (some ⟨U,0,none⟩) (p.length+1) A)]):=eS (iE D);simp only[go_sem,zE,zL,reduceCtorEq,IV.one,r6,f1,f2,f3,f15,f16,f17,ab,qx O,ite_self,gL,O,dC ac (by omega)];refine⟨s1,?_,?_⟩
     ·rw[dE ht,oR,lLa,show (sub.take k).length=k by rw[dQ];omega];simp only[ek,eo,ee];rw[<- fE];exact aF
     ·rw[qw D];exact⟨_,_,.inr ⟨U,A,cs3,rfl,rfl,by omega,aB,aA⟩,az,λb hb=>aa b λh=>hb ((nZ _).1 h),rfl⟩
    ·obtain⟨U,A,rfl,O⟩:=hp2.cons;have r6:join s1 (ownF 64 b2 b3 b4 (.fn g J ca) (.raw (.slice (some ⟨U,0,none⟩) (p.length+1) A))) b3=some (.box [.raw (.slice (some ⟨U,0,none⟩) (p.length+1) A)]):=eS (iE D);simp only[go_sem,zE,zL,reduceCtorEq,IV.one,r6,ab,f2,qx O,ite_self,gL,O];exact c_ (.inr ⟨rfl,s1,_,aE,.inr ⟨U,A,rfl,by omega⟩,λb hb=>aa b λh=>hb ((nZ _).1 h),qw D⟩)
   ·have ho:ownF 64 b2 b3 b4 (.fn g J ca) (.raw (.slice (some ⟨G,0,none⟩) p.length cap)) G=none:=by
     cases ho:ownF 64 b2 b3 b4 (.fn g J ca) (.raw (.slice (some ⟨G,0,none⟩) p.length cap)) G with
     | none=>rfl
     | some o =>
      have:=ae G (by rw[ho];simp);rw[eS (b_ ..)] at this;cases this
    have aM:s G=none:=af G (by rw[b_];simp);have r5:join (join s (emp.put G (some (.box cs)))) (ownF 64 b2 b3 b4 (.fn g J ca) (.raw (.slice (some ⟨G,0,none⟩) p.length cap))) G=some (.box cs):=by
     rw[fO ho,eS (b_ ..)]
    simp only[go_sem,zE,zB,zA,zM,zL,f2,f15,f16,f17,lt_i ac,aN,dz e3,iNn,r3,fits,su];refine kU _ _ _ r5 (by simp[fits,IV.one]) ⟨by show (_+1)*8<=_;omega,by show _+1<=_;omega⟩ ⟨bf,by show _*1<=_;omega⟩ (by simp[IV.cells]) ?_;intro g2 am aV E k1 k2 k3;rw[GM aM ho];have aj:s g2=none/\ownF 64 b2 b3 b4 (.fn g J ca) (.raw (.slice (some ⟨G,0,none⟩) p.length cap)) g2=none:=by
     rcases E with rfl|E
     ·exact⟨aM,ho⟩
     ·cases hq:ownF 64 b2 b3 b4 (.fn g J ca) (.raw (.slice (some ⟨G,0,none⟩) p.length cap)) g2 with
      | some o=>rw[eS hq] at E;cases E
      | none =>
       rw[fO hq] at E;refine⟨?_,rfl⟩;cases hz:s g2 with
       | none=>rfl
       | some o=>rw[ix af g2 o hz] at E;cases E
    have a7:disj s (ownF 64 b2 b3 b4 (.fn g J ca) (.raw (.slice (some ⟨G,0,none⟩) p.length cap))):=λb hb=>by
     have:=ae b hb;cases hz:s b with
     | none=>rfl
     | some o=>rw[ix af b o hz] at this;cases this
    have hF:=vm (fy:=.fn g J ca) (p:=p++[k]) (a':=.raw (.slice (some ⟨g2,0,none⟩) (p.length+1) am)) (cs:=aV) D a7 aj.1 aj.2 (.inr ⟨g2,am,aV,by simp,rfl,by simpa using k1,by simpa using k2,by
     simp only[fR] at k3;rw[lLa];exact k3.trans (by rw[be];simp[plI,IV.cells])⟩)
    have aD:b3≠g2:=by rintro rfl;have:=aj.2;rw[iE D] at this;cases this
    have aC:b4≠g2:=by rintro rfl;have:=aj.2;rw[mq] at this;cases this
    have au:∀o,((join s (ownF 64 b2 b3 b4 (.fn g J ca) (.raw (.slice (some ⟨G,0,none⟩) p.length cap)))).put g2 o) b3=some (.box [.raw (.slice (some ⟨G,0,none⟩) p.length cap)]):=λo=>by rw[ISt.put_apply,a_ aD];exact eS (iE D)
    have aq:∀o o',(((join s (ownF 64 b2 b3 b4 (.fn g J ca) (.raw (.slice (some ⟨G,0,none⟩) p.length cap)))).put g2 o).put b3 o') b4=some (.box [k_ 64 b2 b3 b4]):=λo o'=>by rw[ISt.put_apply,a_ D.symm,ISt.put_apply,a_ aC];exact eS mq
    simp only[go_sem,zE,zA,zL,IV.one,IV.cells,au,aq,f2,f3,k_];refine (ag _ hF).mono ?_;rintro _ aW (⟨rfl,s1,aF,aG⟩|⟨rfl,s1,a2,aE,hp2,aa,rfl⟩)
    ·obtain⟨a2,e2,hp2,az,aa,rfl⟩:=aG;obtain⟨U,A,cs3,rfl,rfl,O,aB,aA⟩:=hp2.cons;have r6:join (join s1 (emp.put U (some (.box cs3)))) (ownF 64 b2 b3 b4 (.fn g J ca) (.raw (.slice (some ⟨U,0,none⟩) (p.length+1) A))) b3=some (.box [.raw (.slice (some ⟨U,0,none⟩) (p.length+1) A)]):=eS (iE D);simp only[go_sem,zE,zL,reduceCtorEq,IV.one,r6,f1,f2,f3,f15,f16,f17,ab,qx O,ite_self,gL,O,dC ac (by omega)];refine⟨s1,?_,?_⟩
     ·rw[dE ht,oR,lLa,show (sub.take k).length=k by rw[dQ];omega];simp only[ek,eo,ee];rw[<- fE];exact aF
     ·rw[qw D];exact⟨_,_,.inr ⟨U,A,cs3,rfl,rfl,by omega,aB,aA⟩,az,λb hb=>aa b λh=>hb ((nZ _).1 h),rfl⟩
    ·obtain⟨U,A,rfl,O⟩:=hp2.cons;have r6:join s1 (ownF 64 b2 b3 b4 (.fn g J ca) (.raw (.slice (some ⟨U,0,none⟩) (p.length+1) A))) b3=some (.box [.raw (.slice (some ⟨U,0,none⟩) (p.length+1) A)]):=eS (iE D);simp only[go_sem,zE,zL,reduceCtorEq,IV.one,r6,ab,f2,qx O,ite_self,gL,O];exact c_ (.inr ⟨rfl,s1,_,aE,.inr ⟨U,A,rfl,by omega⟩,λb hb=>aa b λh=>hb ((nZ _).1 h),qw D⟩)
  ·rintro fr aX _ ⟨⟨s,hI,hF⟩,f1,f2,f3,f15,f16,f17,rfl⟩;rw[lTl] at hI;simp only[go_sem,f16,f17,dF (nLi _)];refine c_ (.inl ⟨rfl,s,?_,hF⟩);rw[show k0+((ek p 0 sub).length+1)=k0+1+(ek p 0 sub).length by omega];exact hI
 ·simp only[go_sem];exact c_ (.inr ⟨rfl,s2,a,hS,hp.a,aO,rfl⟩)
def GU:∀(k:Nat)(t:Tr),SizeOf.sizeOf t<k->hFF gl t
 | 0,t,h=>by omega
 | k+1,.mk r sq f u n sub,h=>PD gl r sq f u n sub (λa A=>GU k a (by
   have:=lSm A;simp at h;omega))
def PE (t:Tr):hFF gl t:=GU gl _ t (ew _)
def GV (t:Tr)(x:IV)(hx:IsTr t x)(hd:t.height<=1099511627776)(I:Nat->ISt->Prop):IterL prog gl 63 [] [.cptr x] (lkW (λx=>x) (t.walk [])) (t.walk []).length I:=by
 rintro y I' S' st ⟨g,fi,ca,rfl,ai,ac⟩ _ hy h0;have J:=PE gl t x hx;have ah:FOkL gl (λx=>x) (.fn g fi ca) I' S' 0 (t.walk []):=λi p t x a e stu hi ht hp aj hI=>by
  rw[ee] at hI ⊢;exact hy i [a,x] e stu ⟨p,t,a,x,hi,ht,hp,rfl⟩ aj hI
 obtain⟨ag,aF,ay,aE,ax,aJ,aM,aH,aA,aG,az,v',aB,aC,av,n',aD,aw,rfl⟩:=eT hx;change ICall prog gl _ [.fn g fi ca,_] st _;refine ICall.intro (c:=cf prog gl [2,3,4] []) func63 rfl (by show _<=9;simp) (by kernel_rfl) ?_;simp only[go_sem,zE,zA,zL,fits];intro b2;refine d_ λam=>?_;intro b3;refine d_ λD=>?_;intro b4;refine d_ λA=>?_;have E:b2≠b3:=by rintro rfl;rw[b_] at D;cases D
 have O:b3≠b4:=by rintro rfl;rw[b_] at A;cases A
 have U:b2≠b4:=by rintro rfl;rw[ISt.put_apply,a_ E,b_] at A;cases A
 rw[ISt.put_apply,a_ E.symm] at D;rw[ISt.put_apply,a_ O.symm,ISt.put_apply,a_ U.symm] at A;have hF:nc 64 b2 b3 b4 (.fn g fi ca) [] st ((((st.put b2 (some (.box [.fn g fi ca]))).put b3 (some (.box [()]))).put b4 (some (.box [.raw .nilFunc]))).put b4 (some (.box [k_ 64 b2 b3 b4]))):=by
  refine⟨_,emp,.inl ⟨⟨true,.nil,0⟩,rfl,rfl,rfl,rfl⟩,λb hb=>absurd rfl hb,λb hb=>?_,?_⟩
  ·show st b=none;by_cases G:b=b4
   ·rw[G];exact A
   ·by_cases q3:b=b3
    ·rw[q3];exact D
    ·by_cases q2:b=b2
     ·rw[q2];exact am
     ·exact absurd (vj q2 q3 G) hb
  ·funext c;by_cases G:c=b4
   ·rw[G,b_,eS mq]
   ·rw[ISt.put_apply,a_ G,ISt.put_apply,a_ G];by_cases q3:c=b3
    ·rw[q3,b_,eS (iE O)]
    ·rw[ISt.put_apply,a_ q3];by_cases q2:c=b2
     ·rw[q2,b_,eS (vh E U)]
     ·rw[ISt.put_apply,a_ q2,fO (vj q2 q3 G)];rfl
 refine (J b2 b3 b4 E U O g fi ca ai ac I' S' 0 [] ah (by simpa using hd) st _ h0 hF).mono ?_;rintro r aI (⟨rfl,s1,ae,a,e,_,al,ak,rfl⟩|⟨rfl,s1,a',ao,_,hd,rfl⟩)
 ·simp only[go_sem];rw[ee] at ae;exact ez ((ix al).trans (ix ak)) (.inl ae)
 ·simp only[go_sem];exact ez (ix hd) (.inr ao)
def GW (x:IV)(st:ISt)(t:Tr)(hx:IsTr t x):ICall prog gl 37 [x] st (λr st'=>r=.fn (.func 63) [] [.cptr x]/\st'=st):=by
 obtain⟨A,af,J,ae,G,ai,ak,ah,U,ag,O,v',aa,ab,D,n',ac,E,rfl⟩:=eT hx;refine ICall.intro (c:=cf prog gl [] [] [1]) func37 rfl (by show _<=4;simp) (by kernel_rfl) ?_;simp only[go_sem,zE];exact c_ ⟨rfl,rfl⟩
def okN (t:Tag):Prop:=okEs t 1/\(t.cap=.nil\/t.fresh=true)
def PG (t:Tag)(ht:t.cap=.nil)(st:ISt):ICall prog gl 39 [.sl t []] st (λr st'=>(∃A,r=.sl A (plI [])/\okN A)/\st'=st):=by
 obtain⟨E,c,es⟩:=t;obtain rfl:c=.nil:=ht;refine iI func39 ?_;have D:binV prog 42 .eql (.sl ⟨E,.nil,es⟩ []) ()=some (.raw (.bool true)):=by
  have:nq prog 42=true:=by kernel_rfl
  simp[binV,kx,this]
 simp only[go_sem,reduceCtorEq,D];exact c_ ⟨⟨_,rfl,.inl rfl,.inl rfl⟩,rfl⟩
def PH (g:Nat)(p:List Nat)(hp:p≠[])(hl:p.length<=1099511627776)(st:ISt):ICall prog gl 39 [.sl ⟨false,.app g,1⟩ (plI p)] st (λr st'=>(∃D,r=.sl D (plI p)/\okN D)/\st'=st):=by
 obtain⟨i,p,rfl⟩:∃i q,p=i::q:=by
  cases p with
  | nil=>exact absurd rfl hp
  | cons i q=>exact⟨i,q,rfl⟩
 refine iI func39 ?_;have E:binV prog 42 .eql (.sl ⟨false,.app g,1⟩ (plI (i::p))) (.sl ⟨true,.nil,0⟩ [])=some (.raw (.bool false)):=by
  have:nq prog 42=true:=by kernel_rfl
  simp[binV,kx,this]
 have O:(plI (i::p)).all (fits false 1)=true:=by simp[plI,fits,IV.one]
 simp only[dV] at hl;have U:plI (i::p)=.raw (.int .i64 (i:Int))::plI p:=rfl;have G:=ir p;have A:(plI p).all (fits false 1)=true:=by simp[plI,fits,IV.one]
 rw[U] at E O ⊢;simp only[go_sem,zE,zA,zM,zL,reduceCtorEq,fits,E];exact fJ rfl (fJ A (fJ ⟨by omega,by omega⟩ λg'=>d_ λJ=>ez (ff J) ⟨⟨_,rfl,.inr rfl,.inr rfl⟩,rfl⟩))
def PI (g:Nat)(st:ISt):ICall prog gl 39 [.sl ⟨false,.app g,1⟩ (plI [])] st (λr st'=>(∃A,r=.sl A (plI [])/\okN A)/\st'=st):=by
 have D:binV prog 42 .eql (.sl ⟨false,.app g,1⟩ (plI [])) ()=some (.raw (.bool false)):=by
  have:nq prog 42=true:=by kernel_rfl
  simp[binV,kx,this]
 rw[show plI []=[] from rfl] at D ⊢;refine iI func39 ?_;simp only[go_sem,zE,zA,zM,zL,reduceCtorEq,D,GO];exact fJ rfl (c_ ⟨⟨_,rfl,.inr rfl,.inr rfl⟩,rfl⟩)
end Go.Proofs.Tryz
namespace Go.Proofs.Tryz
open Go Go.Iv
noncomputable def jP:Tr->Bool
 | .mk r _ m _ _ sub=>decide (r=0)&&sub.isEmpty&&decide (eB m fm0=0)
def gZ:Tr->Bool
 | .mk r _ _ _ _ sub=>decide (r=0)&&sub.isEmpty
abbrev goalT (s:Sq):Tr:=.mk 0 s fm0 tmZ noN []
def shal:Tr->Tr
 | .mk r s m _ _ sub=>.mk r s m tmZ noN (sub.map λp=>goalT p.sq)
noncomputable def iu (ca:Nat)(t:Tr):Bool:=if jP t=true then ev ca t.sq else decide ((gS ca (shal t)).2=0) || decide (0<(gS ca (shal t)).1.length)
noncomputable def badN (ca:Nat)(t:Tr):Nat:=if iu ca t=true then 0 else 270
noncomputable def hCk (ca:Nat)(t:Tr):List Nat×Nat:=if ca=1\/ca=2 then (if 300<t.steps then ([],5) else eV (badN ca) (t.walk [])) else ([],2)
def e_ (t:Tr):List (List Nat):=((t.walk []).filter λq=>gZ q.2).map (·.1)
def atT:Tr->List Nat->Tr
 | t,[]=>t
 | .mk _ _ _ _ _ sub,i::p=>match sub[i]? with
  | some s=>atT s p
  | none=>trZ0
end Go.Proofs.Tryz
namespace Go.Iv
open Go
def sw {M B:Nat}{L L':Nat->Nat}{w:World}{r:Value}{t:Tag}{G:List IV}(hL:∀b,M<=b->L' b=L b)(hB:B<=M)(ht:t.cap=.nil\/t.fresh=true)(hx:∀x∈G,∃v,x=.raw v)(h:V M L w r (.sl t G)):V B L' w r (.sl t G):=by
 cases h with
 | sl a cap t G T vs D O ac hs U E A ae h =>
  have J:∀(i:Nat) (r:Value) (c:IV),vs[i]?=some r->(G.flatMap IV.cells)[i]?=some c->V B L' w r c:=λi r c hr hc=>by
   have ai:=lMg hc;obtain⟨x,af,ab⟩:=f_.1 ai;obtain⟨v,rfl⟩:=hx x af;simp only[IV.cells,dZ] at ab;subst ab;cases h i r _ hr hc with
   | raw _ hv=>exact .raw _ hv
  rcases ht with ht|ht
  ·have ag:G=[]:=by
    rw[ht] at D;exact eG D.2.1
   exact .sl a cap t G T vs D O ac hs U E (λhf ad ha=>by have:=A hf ad ha;exact⟨by omega,this.2⟩) (λaa=>absurd ag aa) J
  ·refine .sl a cap t G T vs D O ac hs U E (λhf ad ha=>by have:=A hf ad ha;exact⟨by omega,this.2⟩) (λaa=>?_) J;grind
def Newly (r:IV):Prop:=∀(M B:Nat) (L L':Nat->Nat) (w:World) (v:Value),(∀b,M<=b->L' b=L b)->B<=M->V M L w v r->V B L' w v r
def Newly.sl {t:Tag}{A:List IV}(ht:t.cap=.nil\/t.fresh=true)(D:∀x∈A,∃v,x=.raw v):Newly (.sl t A):=λ_ _ _ _ _ _ E G h=>sw E G ht D h
section
variable {P:Program}{gl:Nat->Option IV}{f:FuncId}{args args':List IV}{st:ISt}
def sB {K:IV->Prop}(hf:∀b o,st b=some o->(∃cs,o=.box cs)\/B8 o)(ah:∀g x,gl g=some x->age x=x)(hl:Lents st args args')(h:ICall P gl f (ages args') (j0 st) (λr st'=>st'=j0 st/\Newly r/\K r)) :
  ICall P gl f args st (λr st'=>st'=st/\K r):=by
 intro B X rs O hst hv;subst hst;have G:=O.lend;have ai:Good ⟨P,gl,X.w.heap.size⟩ X.lend:=⟨λb o A=>(G.ok b o A).flat (by
   have J:j0 X.st b=some o:=A;rcases hf b o (wU X.st b o J) with⟨cs,rfl⟩|aj
   ·rw[rf (wU X.st b _ J)] at J;cases J
   ·exact aj) rfl rfl,λg x hx=>by
   have h1:=ah g x hx;have h2:=(G.gl g x hx).aged (B':=X.w.heap.size);simp only[age,h1] at h2;exact h2,dJ _,G.Lnew,G.gsh,G.dr⟩
 have ag:Cx.vl ⟨P,gl,X.w.heap.size⟩ X.lend rs (ages args'):=VL.aged (hl.v O hv);refine (h X.w.heap.size X.lend rs ai rfl ag).mono ?_;rintro e w' ⟨v,rfl,X',x,rfl,h2,h3,h4,h5,h6,h7⟩;have ae:∀ {b o},X.st b=some o->b<X.w.heap.size:=λA=>O.lt A
 let Y:WS:={ w:=X'.w,L:=λb=>match X.st b with|some (.box _)=>0|_=>X'.L b,st:=X.st,d:=X'.d }
 have al:∀ {b cs},X.st b=some (.box cs)->Y.L b=0:=λA=>by simp only[Y,A]
 have U:∀ {b},(∀cs,X.st b≠some (.box cs))->Y.L b=X'.L b:=λ{b} A=>by
  grind
 have af:∀ {b cs},X.st b=some (.box cs)->X'.w.heap[b]?=X.w.heap[b]?:=λ{b cs} A=>(h3.keep b (ae A) (rf A)).1;have he:Ext X Y:=by
  refine⟨h3.os,h3.tape,h3.output,h3.size,λb=>?_,λb i hi=>?_,λb A hs=>?_,λb _ hs=>hs,h3.shape,h3.d⟩
  ·by_cases A:∃cs,X.st b=some (.box cs)
   ·obtain⟨cs,A⟩:=A;rw[(O.ok b _ A).1];exact fq _
   ·rw[U λcs hc=>A ⟨cs,hc⟩];exact dT (O.lend_ext.lmono b) (h3.lmono b)
  ·exact h3.cells b i (kr hi (O.lend_ext.lmono b))
  ·have E:∀cs,X.st b≠some (.box cs):=λcs hc=>by rw[hs] at hc;cases hc
   obtain⟨k1,k2⟩:=h3.keep b A ((tN E).trans hs);exact⟨k1,by rw[U E,k2,rh E]⟩
 have ac:∀b,X.w.heap.size<=b->Y.L b=X'.L b:=λb A=>U λcs hc=>by have:=ae hc;omega
 have am:V B Y.L Y.w v x:=h6 _ _ _ _ _ _ ac O.B h4;refine⟨v,rfl,Y,_,rfl,⟨λb o A=>?_,λg x ab=>he.v (O.gl g x ab),dT O.B h3.size,λb A=>?_,λg x ab=>?_,h2.dr⟩,he,am,rfl,h7⟩
 ·by_cases D:∃cs,X.st b=some (.box cs)
  ·obtain⟨cs,D⟩:=D;have J:X.st b=some o:=A;rw[D] at J;cases J;exact (O.ok b _ D).mono (af D) (by rw[al D,(O.ok b _ D).1]) (λ_ _ hv=>he.vl hv)
  ·have E:∀cs,X.st b≠some (.box cs):=λcs hc=>D ⟨cs,hc⟩;have h1:X'.st b=some o:=by rw[h5];exact (tN E).trans A
   exact (h2.ok b o h1).flat ((hf b o A).resolve_left λ⟨cs,hc⟩=>D ⟨cs,A.trans (dX some hc)⟩) rfl (U E)
 ·have E:∀cs,X.st b≠some (.box cs):=λcs hc=>by
   grind
  rw[U E];exact h2.Lnew b A
 ·exact h2.gsh g x ab
end
def GX {l:Array Bool}{i j:Nat}(A:i<l.size):(l.setIfInBounds i true).getD j false=if i=j then true else l.getD j false:=by
 by_cases h:i=j
 ·subst h;rw[cV rfl];simp[A]
 ·rw[a_ h,getD_set_ne false h]
def ju (c:Cf)(ops:List Oper)(dst:Option Nat)(op:Op)(D:TypeId)(pos:String)(A:Array Edge)(K:Kt)(ad:Ad)(fr:Fr)(st:ISt)(ds:List Dfd):iM c ops ⟨dst,op,D,pos,A,none⟩ K ad fr st ds=vcOp c dst op K ad fr st ds:=rfl
def kM {ad:Ad}(h:∀s,ad s=none)(d:Nat):∀s,ad.put d none s=none:=λs=>by
 rw[Ad.put_apply,h s];split<;>rfl
def GY {ops:Array Oper}{A:Array Bool}(h:((List.range ops.size).all λi=>(opAt ops i).after.toList.all λe=>!Region.binds .any e || decide (e.on<i))=true)(hz:A.size=ops.size)(U:Region.ready .any ops A=[]):∀i,i<ops.size->A.getD i false=true:=by
 intro i
 induction i using Nat.strongRecOn with
 | _ i O =>
  intro D;refine jv λhc=>?_;have h4:A.getD i true=false:=by
   rw[la,mu (by omega)] at hc ⊢;simpa using hc
  have:i∈Region.ready .any ops A:=mem_ready.2 ⟨h4,_,nD D,λe E hb=>by
   have J:=eP.1 (eP.1 h i (jE.2 D)) e (by simpa using E);rw[hb] at J;have G:e.on<i:=by simpa using J
   exact O e.on G (Nat.lt_trans G D)⟩
  rw[U] at this;cases this
end Go.Iv
namespace Go.Proofs.Tryz
open Go Go.Iv
set_option maxRecDepth 4000
variable (gl:Nat->Option IV)
def GZ {p:List Nat}{k a:Nat}(h:p[k]?=some a):(plI p)[k]?=some (.raw (.int .i64 (a:Int))):=by simp[plI,eI,h]
def PJ (p q:List Nat):plI (p++q)=plI p++plI q:=by simp[plI]
def sumN:List Nat->Nat
 | []=>0
 | a::l=>a+sumN l
def z7:∀l m:List Nat,sumN (l++m)=sumN l+sumN m
 | [],m=>by simp[sumN]
 | a::l,m=>by simp only[ed,sumN,z7 l m];omega
def PL (l:List Nat)(k:Nat):sumN (l.take k)<=sumN l:=by
 conv=>rhs;rw[<- el k l]
 rw[z7];omega
def PM (D:Tag)(l:List Nat)(G:okEs D 1)(hs:sumN l<=4611686018427387904)(st:ISt):ICall prog gl 62 [.sl D (plI l)] st (λr st'=>r=(sumN l:Int)/\st'=st):=by
 refine iI func62 ?_;simp only[go_sem,reduceCtorEq,ir];intro _;refine dj l.length (λk fr st' ds=>fr 3=(sumN (l.take k):Int)/\fr 6=.iv (.sl D (plI l))/\fr 7=l.length/\fr 8=.iv (.raw (.int .i64 k))/\st'=st/\ds=[]) ?_ ?_ ?_
 ·simp only[go_sem,zE];simp[sumN]
 ·rintro k fr E _ A ⟨f3,f6,f7,f8,rfl,rfl⟩;obtain⟨a,J⟩:=dB A;have h1:=PL l (k+1);have h2:sumN (l.take (k+1))=sumN (l.take k)+a:=by rw[dE J,z7];rfl
  have O:IntKind.i64.wrap (((sumN (l.take k):Nat):Int)+(a:Int))=((sumN (l.take (k+1)):Nat):Int):=by rw[w64]<;>omega
  simp only[go_sem,zE,f3,f6,f7,f8,lt_i A,dz G,iNn,GZ J,fits,O,dC A (by omega)]
 ·rintro fr E _ ⟨f3,f6,f7,f8,rfl,rfl⟩;rw[lTl] at f3;simp only[go_sem,zE,f3,f7,f8,dF (nLi _)];exact c_ ⟨rfl,rfl⟩
def G1:Tr->List Tr
 | .mk _ _ _ _ _ sub=>sub
def vo (g:Nat)(v:Tr->Nat):Prop:=∀(t:Tr) (l:List Nat) (x:IV) (D:Tag) (A st:ISt),IsTr t x->t.steps<=1099511627776->l=(G1 t).map v->own st D l.length 1 A->subSt A st →
 ICall prog gl g [x,.sl D (plI l)] st (λr st'=>r=(v t:Int)/\subSt A st')
def G2:∀ {l:List Tr}{t:Tr},t∈l->t.steps<=fj l
 | a::l,t,h=>by
  simp only[fj];rcases dN.1 h with rfl|h
  ·omega
  ·have:=G2 h;omega
def lY:∀l:List Tr,l.length<=fj l
 | []=>dJ _
 | .mk _ _ _ _ _ s::l=>by
  have:=lY l;simp only[dV,fj,Tr.steps];omega
def vp (v:Tr->Nat)(g:Nat)(t:Tr):Prop:=∀(x:IV) (_:IsTr t x) (_:t.steps<=1099511627776) (st:ISt),ICall prog gl 60 [x,.fn (.func g) [] []] st (λr st'=>r=(v t:Int)/\st'=st)
def PN (v:Tr->Nat)(g:Nat)(ac:entI prog g=true)(hg:vo gl g v)(rule:Nat)(sq:Sq)(f:Fm)(u:Tm)(n:ByteArray)(sub:List Tr)(IH:∀a∈sub,vp gl v g a):vp gl v g (.mk rule sq f u n sub):=by
 intro x hx hs st;have ah:=hx;obtain⟨tl,xl,tr,xr,op,fn,ta,xa,tb,xb,vb,un,tu,xu,ts,xs,rfl,aO,_,_,_,_,_,_,e3,i3⟩:=hx.mk;have ai:=hs;simp only[Tr.steps] at hs;have hll:=lY sub;refine iI func60 ?_;simp only[go_sem,zE,i3.len];intro _;refine dj sub.length (λk fr st' ds=>(∃D,fr 5=.iv (.sl D (plI ((sub.take k).map v)))/\own st' D k 1 st/\subSt st st')/\fr 1=.iv (.fn (.func g) [] [])/\fr 2=.box [.raw (.int .u8 rule),.sl tl xl,.sl tr xr,.raw (.int .u8 op),fn,.sl ta xa,.sl tb xb,vb,un,.sl tu xu,n,.sl ts xs] /\
  fr 9=.iv (.sl ts xs)/\fr 10=sub.length/\fr 11=.iv (.raw (.int .i64 k))/\ds=[]) ?_ ?_ ?_
 ·simp only[go_sem,zE];exact⟨⟨_,rfl,.inl ⟨rfl,rfl⟩,subSt.refl _⟩,rfl⟩
 ·rintro k fr J _ ab ⟨⟨D,f5,G,E⟩,f1,f2,f9,f10,f11,rfl⟩;obtain⟨a,ha⟩:=dB ab;obtain⟨z,aj,hz⟩:=i3.get ha;have hst:=G2 (lMg ha);have A:=IH a (lMg ha) z hz (by omega) J;obtain⟨ag,aI,aw,aH,au,aN,aS,aL,az,aJ,ax,v',aC,aE,an,n',aG,aq,rfl⟩:=eT hz;simp only[go_sem,zE,zB,zA,zL,f1,f5,f9,f10,f11,lt_i ab,dz e3,iNn,aj,fits];refine A.mono ?_;rintro _ _ ⟨rfl,rfl⟩;simp only[go_sem,zE,zA,zM,zL,fits,su];refine jN G (by rw[ir,dY,dQ];omega) E rfl (by simp[fits,IV.one]) (by simp only;omega) (by omega) λaf st4 aa O _ _=>?_;simp only[go_sem,zE,f1,f2,f9,f10,f11,dC ab (by omega)];exact⟨af,by rw[dE ha,eJ,PJ];rfl,aa,O⟩
 ·rintro fr J _ ⟨⟨D,f5,G,E⟩,f1,f2,f9,f10,f11,rfl⟩;rw[lTl] at f5;have A:=hg _ (sub.map v) _ D st J ah ai rfl (by rw[dY];exact G) E;simp only[go_sem,zE,zA,zL,f1,f2,f5,f10,f11,dF (nLi _),ac];refine A.mono ?_;rintro _ aM ⟨rfl,U⟩;simp only[go_sem];exact ez U ⟨rfl,rfl⟩
def G3 (v:Tr->Nat)(g:Nat)(A:entI prog g=true)(D:vo gl g v):∀(k:Nat) (t:Tr),SizeOf.sizeOf t<k->vp gl v g t
 | 0,t,h=>by omega
 | k+1,.mk r sq f u n sub,h=>PN gl v g A D r sq f u n sub (λa E=>G3 v g A D k a (by
   have:=lSm E;simp at h;omega))
def PO (v:Tr->Nat)(g:Nat)(A:entI prog g=true)(D:vo gl g v)(t:Tr):vp gl v g t:=G3 gl v g A D _ t (ew _)
def z8:∀l:List Tr,sumN (l.map Tr.steps)=fj l
 | []=>rfl
 | a::l=>by simp only[ec,sumN,fj,z8 l]
def PT:vo gl 61 Tr.steps:=by
 rintro⟨rule,s,m,u,n,sub⟩ l x tg am st hx hs rfl D E;simp only[G1] at D ⊢;simp only[Tr.steps] at hs;have A:=λst=>PM gl tg (sub.map Tr.steps) D.es (by rw[z8];omega) st;have hw:IntKind.i64.wrap (1+((fj sub:Nat):Int))=((1+fj sub:Nat):Int):=by rw[w64]<;>omega
 rw[z8] at A;obtain⟨G,ai,aa,ah,U,an,au,al,ac,ak,ab,v',ae,af,J,n',ag,O,rfl⟩:=eT hx;refine iI func61 ?_;simp only[go_sem,zE,zA];refine (A _).q ?_;simp only[go_sem,hw];exact c_ ⟨by simp only[Tr.steps],E⟩
def G4 (t:Tr)(x:IV)(D:IsTr t x)(hs:t.steps<=1099511627776)(st:ISt):ICall prog gl 36 [x] st (λr st'=>r=(t.steps:Int)/\st'=st):=by
 have hf:=λst=>PO gl Tr.steps 61 (by simp only[go_sem]) (PT gl) t x D hs st;obtain⟨A,ag,O,af,J,aj,al,ai,aa,ah,U,v',ab,ac,E,n',ae,G,rfl⟩:=eT D;refine iI func36 ?_;simp only[go_sem,zE,zA,zL];refine (hf _).q ?_;simp only[go_sem];exact c_ ⟨rfl,rfl⟩
