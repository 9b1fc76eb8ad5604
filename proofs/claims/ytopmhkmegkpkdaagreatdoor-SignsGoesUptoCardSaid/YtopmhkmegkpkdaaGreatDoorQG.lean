/- Walks: Over of lyceumkit: what is owned -/
import Derived.Test.YtopmhkmegkpkdaaGreatDoorQF
import Derived.Test.YtopmhkmegkpkdaaGreatDoorKV
set_option linter.all false
open Nat renaming reduceEqDiff → zE,reduceBEq → zB,reduceAdd → zA,reduceMul → zM,reduceLeDiff → zL
namespace Go.Proofs.Tryz
open Go Go.Iv
set_option maxRecDepth 4000
variable (gl:Nat->Option IV)
def Z0 (x:IV):Prop:=(∃f e,x=.sl ⟨f,.nil,e⟩ [])\/x=.raw (.slice none 0 0)
def hdK:Nat->IV->Prop
 | 3,v=>∃b,v=.raw (.bool b)
 | 4,v=>∃o,v=.raw (.int .u8 o)
 | 2,v=>∃q:Option Addr×Nat×Nat,v=.raw (.slice q.1 q.2.1 q.2.2)
 | _,_=>False
def h1K:Nat->List IV->Prop
 | 4,cs=>∃n,cs[1]?=some (.raw (.string n))
 | _,_=>True
def h1K.congr {s:Nat}{cs cs':List IV}(h:h1K s cs)(A:cs'[1]?=cs[1]?):h1K s cs':=by
 unfold h1K at h ⊢;split
 ·rw[A];exact h
 ·trivial
def nx:Nat->Nat->Option Nat
 | 3,2=>some 3
 | 4,2=>some 3
 | 4,3=>some 4
 | 2,0=>some 4
 | 2,1=>some 4
 | _,_=>none
def GG {s j s':Nat}(h:nx s j=some s'):j<s:=by
 unfold nx at h;split at h<;>first|omega|cases h
def hdK.one {s s':Nat}{v:IV}(h:hdK s v)(A:hdK s' v):s=s':=by
 unfold hdK at h A;split at h<;>split at A<;>first|rfl|exact h.elim|exact A.elim|(obtain⟨_,rfl⟩:=h;obtain⟨_,A⟩:=A;cases A)
def nx3 {j s':Nat}(h:nx 3 j=some s'):j=2/\s'=3:=by
 match j,h with
 | 2,h=>cases h;exact⟨rfl,rfl⟩
def nx4 {j s':Nat}(h:nx 4 j=some s'):j=2/\s'=3\/j=3/\s'=4:=by
 match j,h with
 | 2,h=>cases h;exact .inl ⟨rfl,rfl⟩
 | 3,h=>cases h;exact .inr ⟨rfl,rfl⟩
def OK (D:Nat->Prop):Nat->Nat->ISt->IV->Prop
 | 0,_,_,x=>Z0 x
 | d+1,s,st,x=>Z0 x\/∃g n c cs v,x=.raw (.slice (some ⟨g,0,none⟩) n c)/\D g/\n<=140737488355328/\n<=c/\st g=some (.box cs)/\c*s<=cs.length/\cs[0]?=some v/\hdK s v/\h1K s cs /\
   ∀i,i<n->(∀j,j<s->∃y,cs[i*s+j]?=some y/\y.one=true/\y.def_)/\∀j y s',cs[i*s+j]?=some y->nx s j=some s'->OK D d s' st y
def OK.zero {D:Nat->Prop}{d s:Nat}{st:ISt}{x:IV}(h:Z0 x):OK D d s st x:=by cases d<;>first|exact h|exact .inl h
def Z0.raw {g n c:Nat}(h:Z0 (.raw (.slice (some ⟨g,0,none⟩) n c))):False:=by
 rcases h with⟨_,_,h⟩|h<;>cases h
def OK.raw {D:Nat->Prop}{d s g n c:Nat}{st:ISt}(h:OK D d s st (.raw (.slice (some ⟨g,0,none⟩) n c))):∃e cs v,d=e+1/\D g/\n<=140737488355328/\n<=c/\st g=some (.box cs)/\c*s<=cs.length/\cs[0]?=some v/\hdK s v/\h1K s cs /\
   ∀i,i<n->(∀j,j<s->∃y,cs[i*s+j]?=some y/\y.one=true/\y.def_)/\∀j y s',cs[i*s+j]?=some y->nx s j=some s'->OK D e s' st y:=by
 cases d with
 | zero=>exact (Z0.raw h).elim
 | succ e =>
  rcases h with h|⟨g',E,O,cs,v,A,h⟩
  ·exact (Z0.raw h).elim
  ·cases A;exact⟨e,cs,v,rfl,h⟩
def OK.up {D:Nat->Prop}:∀ {d s:Nat} {st:ISt} {x:IV},OK D d s st x->OK D (d+1) s st x
 | 0,_,_,_,h=>.inl h
 | d+1,s,st,x,h=>by
  rcases h with h|⟨g,n,c,cs,v,h1,h2,h3,h4,h5,h6,h7,h8,U,E⟩
  ·exact .inl h
  ·exact .inr ⟨g,n,c,cs,v,h1,h2,h3,h4,h5,h6,h7,h8,U,λi A=>⟨(E i A).1,λj y s' O W=>((E i A).2 j y s' O W).up⟩⟩
def OK.le {D:Nat->Prop}{d e s:Nat}{st:ISt}{x:IV}(h:OK D d s st x)(A:d<=e):OK D e s st x:=by
 induction A with
 | refl=>exact h
 | step _ E=>exact E.up
def OK.mono {D:Nat->Prop}:∀ {d s:Nat} {st st':ISt} {x:IV},subSt st st'->OK D d s st x->OK D d s st' x
 | 0,_,_,_,_,_,h=>h
 | d+1,s,st,st',x,A,h=>by
  rcases h with h|⟨g,n,c,cs,v,h1,h2,h3,h4,h5,h6,h7,h8,W,O⟩
  ·exact .inl h
  ·exact .inr ⟨g,n,c,cs,v,h1,h2,h3,h4,A _ _ h5,h6,h7,h8,W,λi E=>⟨(O i E).1,λj y s' U hn=>((O i E).2 j y s' U hn).mono A⟩⟩
def E0 (x:IV):Prop:=x=.raw (.slice none 0 0)\/∃g c,x=.raw (.slice (some ⟨g,0,none⟩) 0 c)
def GH (cs:List IV):Prop:=(∃o,cs[0]?=some (.raw (.int .u8 o)))/\∃q:Option Addr×Nat×Nat,cs[1]?=some (.raw (.slice q.1 q.2.1 q.2.2))
def rawO (x:IV):Prop:=∃v,x=.raw v/\x.one=true
def OT (D:Nat->Prop):Nat->ISt->IV->Prop
 | 0,_,x=>E0 x
 | d+1,st,x=>E0 x\/∃g n c cs,x=.raw (.slice (some ⟨g,0,none⟩) n c)/\n<=140737488355328/\n<=c/\st g=some (.box cs)/\GH cs/\n*12<=cs.length /\
   ∀i,i<n->∃r l E o m a b v u t O A,(cs.drop (i*12)).take 12=[r,l,E,o,m,a,b,v,u,t,O,A]/\(∀y∈[r,l,E,o,m,a,b,v,u,t,O,A],rawO y)/\OK D d 4 st l/\OK D d 4 st E/\OK D d 3 st a/\OK D d 4 st b/\OT D d st A
def OT.mono {D:Nat->Prop}:∀ {d:Nat} {st st':ISt} {x:IV},subSt st st'->OT D d st x->OT D d st' x
 | 0,_,_,_,_,h=>h
 | d+1,st,st',x,A,h=>by
  rcases h with h|⟨g,n,c,cs,h1,h2,h3,h4,h5,h6,h7⟩
  ·exact .inl h
  ·refine .inr ⟨g,n,c,cs,h1,h2,h3,A _ _ h4,h5,h6,λi hi=>?_⟩;obtain⟨r,l,l',o,m,a,b,v,u,t,n',E,q1,q2,q3,q4,W,U,O⟩:=h7 i hi;exact⟨r,l,l',o,m,a,b,v,u,t,n',E,q1,q2,q3.mono A,q4.mono A,W.mono A,U.mono A,O.mono A⟩
def OT.up {D:Nat->Prop}:∀ {d:Nat} {st:ISt} {x:IV},OT D d st x->OT D (d+1) st x
 | 0,_,_,h=>.inl h
 | d+1,st,x,h=>by
  rcases h with h|⟨g,n,c,cs,h1,h2,h3,h4,h5,h6,h7⟩
  ·exact .inl h
  ·refine .inr ⟨g,n,c,cs,h1,h2,h3,h4,h5,h6,λi hi=>?_⟩;obtain⟨r,l,l',o,m,a,b,v,u,t,n',A,q1,q2,q3,W,U,O,E⟩:=h7 i hi;exact⟨r,l,l',o,m,a,b,v,u,t,n',A,q1,q2,q3.up,W.up,U.up,O.up,E.up⟩
def OT.le {D:Nat->Prop}{d e:Nat}{st:ISt}{x:IV}(h:OT D d st x)(A:d<=e):OT D e st x:=by
 induction A with
 | refl=>exact h
 | step _ E=>exact E.up
structure Ow (D:Nat->Prop)(st st':ISt):Prop where
 dom:∀b,¬ D b->st' b=st b
 keep:∀d s x,OK D d s st x->OK D d s st' x
 keepT:∀d x,OT D d st x->OT D d st' x
def Ow.refl (D:Nat->Prop)(st:ISt):Ow D st st:=⟨λ_ _=>rfl,λ_ _ _ h=>h,λ_ _ h=>h⟩
def Ow.trans {D:Nat->Prop}{a b c:ISt}(h:Ow D a b)(k:Ow D b c):Ow D a c:=⟨λg A=>(k.dom g A).trans (h.dom g A),λd s x hx=>k.keep d s x (h.keep d s x hx),λd x hx=>k.keepT d x (h.keepT d x hx)⟩
structure Wr (s:Nat)(w:List IV):Prop where
 len:w.length=s
 hd:∃v,w[0]?=some v/\hdK s v
 one:∀y∈w,y.one=true/\y.def_
 z:∀j y s',w[j]?=some y->nx s j=some s'->Z0 y
 h1:h1K s w
def Wr.pos {s:Nat}{w:List IV}(h:Wr s w):0<s/\(s=4\/∀cs,h1K s cs):=by
 obtain⟨v,_,A⟩:=h.hd;unfold hdK at A;split at A
 ·exact⟨by omega,.inr λ_=>trivial⟩
 ·exact⟨by omega,.inl rfl⟩
 ·exact⟨by omega,.inr λ_=>trivial⟩
 ·exact A.elim
def OK.put {D:Nat->Prop}{st:ISt}{g s0 i:Nat}{cs w:List IV}{v:IV}(hg:st g=some (.box cs))(h0:cs[0]?=some v)(hv:hdK s0 v)(aa:i*s0+s0<=cs.length)(O:Wr s0 w) :
  ∀(d s:Nat) (x:IV),OK D d s st x->OK D d s (st.put g (some (.box (eV cs (i*s0) w)))) x
 | 0,_,_,h=>h
 | d+1,s,x,h=>by
  rcases h with h|⟨g',n,c,cs',u,h1,h2,h3,h4,h5,h6,h7,h8,af,h9⟩
  ·exact .inl h
  have hl:i*s0+w.length<=cs.length:=by rw[O.len];exact aa
  by_cases ah:g'=g
  ·subst ah;rw[hg] at h5;cases h5;rw[h0] at h7;cases h7;obtain rfl:=hv.one h8;have A:∀k,(eV cs (i*s0) w)[k]?=if i*s0<=k/\k<i*s0+s0 then w[k-i*s0]? else cs[k]?:=λk=>by rw[Ly hl,O.len]
   have az:0<s0:=by
    rcases Nat.eq_zero_or_pos s0 with rfl|h
    ·exact hv.elim
    ·exact h
   have hq:∃v',(eV cs (i*s0) w)[0]?=some v'/\hdK s0 v':=by
    rw[A];split
    ·rename_i hk;obtain⟨v',h1,h2⟩:=O.hd;rw[show 0-i*s0=0 by omega];exact⟨v',h1,h2⟩
    ·exact⟨v,h0,hv⟩
   obtain⟨v',e1,e2⟩:=hq;have ak:h1K s0 (eV cs (i*s0) w):=by
    rcases O.pos.2 with h4|h
    ·rcases Nat.eq_zero_or_pos i with rfl|hi
     ·refine O.h1.congr ?_;rw[A,b_ ⟨by omega,by omega⟩,show 1-0*s0=1 by omega]
     ·refine af.congr ?_;have:=ec s0 (show 1<=i from hi);rw[A,a_ (by omega)]
    ·exact h _
   refine .inr ⟨g',n,c,_,v',h1,h2,h3,h4,cT ..,by rw[Lz hl];exact h6,e1,e2,ak,λk hk=>?_⟩;obtain⟨a1,a2⟩:=h9 k hk;by_cases ag:k=i
   ·subst ag;refine⟨λj hj=>?_,λj y s' E W=>?_⟩
    ·rw[A,b_ ⟨by omega,by omega⟩,show k*s0+j-k*s0=j by omega];obtain⟨y,E⟩:=dd (l:=w) (k:=j) (by rw[O.len];exact hj);exact⟨y,E,O.one y (lMg E)⟩
    ·have hj:=GG W;rw[A,b_ ⟨by omega,by omega⟩,show k*s0+j-k*s0=j by omega] at E;exact .zero (O.z j y s' E W)
   ·have U:∀j,j<s0->¬(i*s0<=k*s0+j/\k*s0+j<i*s0+s0):=λj hj hc=>by
     rcases Nat.lt_or_gt_of_ne ag with h|h
     ·have:=ec s0 (show k+1<=i from h);rw[ek] at this;omega
     ·have:=ec s0 (show i+1<=k from h);rw[ek] at this;omega
    refine⟨λj hj=>?_,λj y s' E W=>OK.put hg h0 hv aa O d s' y (a2 j y s' ?_ W)⟩
    ·rw[A,a_ (U j hj)];exact a1 j hj
    ·rw[A,a_ (U j (GG W))] at E;exact E
  ·exact .inr ⟨g',n,c,cs',u,h1,h2,h3,h4,by rw[de ah];exact h5,h6,h7,h8,af,λk hk=>by
    obtain⟨a1,a2⟩:=h9 k hk;exact⟨a1,λj y s' E W=>OK.put hg h0 hv aa O d s' y (a2 j y s' E W)⟩⟩
def OT.put {D:Nat->Prop}{st:ISt}{g s0 i:Nat}{cs w:List IV}{v:IV}(O:st g=some (.box cs))(U:cs[0]?=some v)(E:hdK s0 v)(hk:h1K s0 cs)(A:i*s0+s0<=cs.length)(W:Wr s0 w) :
  ∀(d:Nat) (x:IV),OT D d st x->OT D d (st.put g (some (.box (eV cs (i*s0) w)))) x
 | 0,_,h=>h
 | d+1,x,h=>by
  rcases h with h|⟨g',n,c,cs',h1,h2,h3,h4,h5,h6,h7⟩
  ·exact .inl h
  ·have ab:g'≠g:=by
    rintro rfl;rw[O] at h4;cases h4;obtain⟨⟨o,e0⟩,q,e1⟩:=h5;rw[U] at e0;cases e0;unfold hdK at E;split at E
    ·obtain⟨_,h⟩:=E;cases h
    ·obtain⟨_,h⟩:=hk;rw[h] at e1;cases e1
    ·obtain⟨_,h⟩:=E;cases h
    ·exact E
   refine .inr ⟨g',n,c,cs',h1,h2,h3,by rw[de ab];exact h4,h5,h6,λk aa=>?_⟩;obtain⟨r,l,l',o,m,a,b,v',u,t,n',ts,q1,q2,q3,q4,q5,q6,q7⟩:=h7 k aa;exact⟨r,l,l',o,m,a,b,v',u,t,n',ts,q1,q2,OK.put O U E A W _ _ _ q3,OK.put O U E A W _ _ _ q4,OK.put O U E A W _ _ _ q5,OK.put O U E A W _ _ _ q6,OT.put O U E hk A W d ts q7⟩
def Ow.put {D:Nat->Prop}{st:ISt}{g s0 i:Nat}{cs w:List IV}{v:IV}(hD:D g)(U:st g=some (.box cs))(W:cs[0]?=some v)(O:hdK s0 v)(hk:h1K s0 cs)(A:i*s0+s0<=cs.length)(E:Wr s0 w):Ow D st (st.put g (some (.box (eV cs (i*s0) w)))) :=
 ⟨λb hb=>de (by rintro rfl;exact hb hD),OK.put U W O A E,OT.put U W O hk A E⟩
def wr3 (k j:Nat):Wr 3 (mkC k j):=⟨rfl,⟨_,rfl,_,rfl⟩,λy A=>by
  simp only[mkC,dC,e_,eu] at A;rcases A with rfl|rfl|rfl<;>exact⟨rfl,λh=>by cases h⟩,λj y s' A D=>by
  obtain⟨rfl,rfl⟩:=nx3 D;cases A;exact .inl ⟨_,_,rfl⟩,trivial⟩
def wr4 (k j:Nat):Wr 4 (mkD k j):=⟨rfl,⟨_,rfl,_,rfl⟩,λy A=>by
  simp only[mkD,dC,e_,eu] at A;rcases A with rfl|rfl|rfl|rfl<;>exact⟨rfl,λh=>by cases h⟩,λj y s' A D=>by
  rcases nx4 D with⟨rfl,rfl⟩|⟨rfl,rfl⟩<;>(cases A;exact .inl ⟨_,_,rfl⟩),⟨_,rfl⟩⟩
def GI (D:Nat->Prop)(f:Bool)(e:Nat)(st:ISt):ICall prog gl 90 [.sl ⟨f,.nil,e⟩ []] st (λ_ st'=>Ow D st st'):=by
 refine iI func90 ?_;simp only[go_sem];refine cV 0 (λk fr st' ds=>fr 0=.iv (.sl ⟨f,.nil,e⟩ [])/\fr 2=(0:Int)/\st'=st/\ds=[]) ?_ ?_ ?_
 ·simp only[go_sem,reduceCtorEq]
 ·intro k _ _ _ h;omega
 ·rintro fr st _ ⟨f0,f2,rfl,rfl⟩;simp only[go_sem,zE,zL,reduceCtorEq,f0,f2,show decide ((0:Int)<((0:Nat):Int))=false from rfl,show IntKind.i64.wrap (((0:Nat):Int)+12)=12 from rfl,show min (0:Int) 12=((0:Nat):Int) from rfl,oz (dz 0)];intros;refine cV 0 (λk fr st' ds=>(∃t,fr 3=.iv (.sl t []))/\fr 4=(0:Int)/\st'=st/\ds=[]) ?_ ?_ ?_
  ·simp only[go_sem,zE];exact⟨_,rfl⟩
  ·intro k _ _ _ h;omega
  ·rintro fr st _ ⟨⟨t,f3⟩,f4,rfl,rfl⟩;simp only[go_sem,zE,zL,f3,f4,show decide ((0:Int)<((0:Nat):Int))=false from rfl];intros;exact cO (Ow.refl _ _)
def GJ (D:Nat->Prop)(f:Bool)(e:Nat)(st:ISt):ICall prog gl 89 [.sl ⟨f,.nil,e⟩ []] st (λ_ st'=>Ow D st st'):=by
 refine iI func89 ?_;simp only[go_sem];refine cV 0 (λk fr st' ds=>fr 0=.iv (.sl ⟨f,.nil,e⟩ [])/\fr 2=(0:Int)/\st'=st/\ds=[]) ?_ ?_ ?_
 ·simp only[go_sem,reduceCtorEq]
 ·intro k _ _ _ h;omega
 ·rintro fr st _ ⟨f0,f2,rfl,rfl⟩;simp only[go_sem,zE,zL,reduceCtorEq,f0,f2,show decide ((0:Int)<((0:Nat):Int))=false from rfl,show IntKind.i64.wrap (((0:Nat):Int)+12)=12 from rfl,show min (0:Int) 12=((0:Nat):Int) from rfl,oz (dz 0)];intros;refine cV 0 (λk fr st' ds=>(∃t,fr 3=.iv (.sl t []))/\fr 4=(0:Int)/\st'=st/\ds=[]) ?_ ?_ ?_
  ·simp only[go_sem,zE];exact⟨_,rfl⟩
  ·intro k _ _ _ h;omega
  ·rintro fr st _ ⟨⟨t,f3⟩,f4,rfl,rfl⟩;simp only[go_sem,zE,zL,f3,f4,show decide ((0:Int)<((0:Nat):Int))=false from rfl];intros;exact cO (Ow.refl _ _)
def GK {D:Nat->Prop}{x:IV}(h:Z0 x)(st:ISt):ICall prog gl 90 [x] st (λ_ st'=>Ow D st st'):=by
 rcases h with⟨f,e,rfl⟩|rfl
 ·exact GI gl D f e st
 ·exact nQ (GI gl D _ _ st)
def GL {D:Nat->Prop}{x:IV}(h:Z0 x)(st:ISt):ICall prog gl 89 [x] st (λ_ st'=>Ow D st st'):=by
 rcases h with⟨f,e,rfl⟩|rfl
 ·exact GJ gl D f e st
 ·exact nQ (GJ gl D _ _ st)
def P_ {D:Nat->Prop}{a b y:IV}{st:ISt}(ha:a.one=true)(W:b.one=true)(A:y.one=true)(U:y.def_)(h:ICall prog gl 90 [y] st (λ_ st'=>Ow D st st')) :
  ICall prog gl 125 [.agg [a,b,y]] st (λ_ st'=>Ow D st st'):=by
 refine iI func125 ?_;simp only[go_sem,zE,zA,ha,W,A,qJ U];refine h.mono ?_;rintro _ O E;simp only[go_sem];exact cO E
def GM (D:Nat->Prop):∀(d:Nat) (x:IV) (st:ISt),OK D d 3 st x->ICall prog gl 90 [x] st (λ_ st'=>Ow D st st')
 | 0,x,st,h=>GK gl h st
 | d+1,x,st,h=>by
  have part:∀ {U:ISt} {cells A:List IV} {k:Nat},cells.length=3->(∀j,j<3->∃y,cells[j]?=some y/\A[k*3+j]?=some y/\y.one=true/\y.def_)->(∀j y s',A[k*3+j]?=some y->nx 3 j=some s'->OK D d s' U y) →
    ICall prog gl 125 [.agg cells] U (λ_ st'=>Ow D U st'):=by
   intro U cells A k hl hc h2
   match cells,hl with
   | [a,b,y],_ =>
    obtain⟨_,e0,_,a0,_⟩:=hc 0 (by omega);obtain⟨_,e1,_,a1,_⟩:=hc 1 (by omega);obtain⟨_,e2,q2,a2,d2⟩:=hc 2 (by omega);cases e0;cases e1;cases e2;exact P_ gl a0 a1 a2 d2 (GM D d y U (h2 2 _ 3 q2 rfl))
  rcases h with h|⟨g,n,c,cs,v,rfl,hD,hn,ao,hg,aj,h0,hv,ae,hi⟩
  ·exact GK gl h st
  have hw:OK D (d+1) 3 st (.raw (.slice (some ⟨g,0,none⟩) n c)):=.inr ⟨g,n,c,cs,v,rfl,hD,hn,ao,hg,aj,h0,hv,ae,hi⟩;clear hg aj h0 hv ae hi;have ay:IntKind.i64.wrap ((n:Int)+12)=((n+12:Nat):Int):=by rw[w64]<;>omega
  have ai:min (c:Int) ((n+12:Nat):Int)=((min c (n+12):Nat):Int):=by omega
  generalize hm:min c (n+12)=m at ai;have aA:m<=c:=by omega
  have aM:m<=281474976710000:=by omega
  refine iI func90 ?_;simp only[go_sem];refine cV n (λk fr st' ds=>fr 0=.iv (.raw (.slice (some ⟨g,0,none⟩) n c))/\fr 2=.iv (.raw (.int .i64 k))/\Ow D st st'/\ds=[]) ?_ ?_ ?_
  ·simp only[go_sem,reduceCtorEq];exact⟨rfl,Ow.refl _ _⟩
  ·rintro k fr U _ O ⟨f0,f2,ab,rfl⟩;obtain⟨e,A,v,he,_,_,_,af,aB,_,_,_,ar⟩:=(ab.keep _ _ _ hw).raw;obtain rfl:d=e:=by omega
   obtain⟨an,h2⟩:=ar k O;have ac:k*3+3<=A.length:=by
    have:=ec 3 (show k+1<=c by omega);omega
   obtain⟨cells,au,ag⟩:∃l,l=(A.drop (k*3)).take 3/\∀j,j<3->∃y,l[j]?=some y/\A[k*3+j]?=some y/\y.one=true/\y.def_:=⟨_,rfl,λj hj=>by
    obtain⟨y,hy,h⟩:=an j hj;exact⟨y,by rw[fl,b_ hj,ix];exact hy,hy,h⟩⟩
   have aC:cells.length=3:=by rw[au,dO,fp];omega
   have ak:=part aC ag h2;simp only[go_sem,zE,zA,reduceCtorEq,f0,f2,lt_i O,iNn,O,af,ac,au.symm];refine ak.mono ?_;rintro _ W E;simp only[go_sem,zE,reduceCtorEq,f0,f2,df O (by omega)];exact ab.trans E
  ·rintro fr U _ ⟨f0,f2,ab,rfl⟩;simp only[go_sem,zE,reduceCtorEq,f0,f2,dD (nLi _),ay,ai,ao,oz aA,ite_self,fY];refine cV m (λk fr st' ds=>fr 3=.iv (.raw (.slice (some ⟨g,0,none⟩) m c))/\fr 4=.iv (.raw (.int .i64 k))/\Ow D st st'/\ds=[]) ?_ ?_ ?_
   ·simp only[go_sem,zE];exact⟨rfl,ab⟩
   ·rintro k fr W _ O ⟨f3,f4,E,rfl⟩;obtain⟨e,A,v,he,_,_,_,af,aB,h0,hv,ae,ar⟩:=(E.keep _ _ _ hw).raw;have ac:k*3+3<=A.length:=by
     have:=ec 3 (show k+1<=c by omega);omega
    have az:=zo gl 2 k W;have ah:=Ow.put hD af h0 hv ae ac (wr3 2 k);simp only[go_sem,zE,zA,f3,f4,lt_i O];refine az.mono ?_;rintro _ W ⟨rfl,rfl⟩;generalize aa:W.put g (some (.box (eV A (k*3) (mkC 2 k))))=aJ at ah;have am:=E.trans ah;have av:(mkC 2 k).all IV.one=true:=rfl;have aq:(mkC 2 k).length=3:=rfl;unfold eV at aa;rw[aq] at aa;simp only[go_sem,zE,f3,f4,iNn,O,af,ac,av,aq,aa,df O (by omega)];exact am
   ·rintro fr W _ ⟨f3,f4,E,rfl⟩;simp only[go_sem,zE,f3,f4,dD (nLi _)];intros;exact cO E
def zw {D:Nat->Prop}{a b y z:IV}{st:ISt}{d:Nat}(ha:a.one=true)(hb:b.one=true)(W:y.one=true)(hy:y.def_)(U:z.one=true)(hz:z.def_)(h:OK D d 3 st y)(O:OK D d 4 st z)
  (IH:∀st,OK D d 4 st z->ICall prog gl 89 [z] st (λ_ st'=>Ow D st st')) :
  ICall prog gl 55 [.agg [a,b,y,z]] st (λ_ st'=>Ow D st st'):=by
 have h1:=GM gl D d y st h;refine iI func55 ?_;simp only[go_sem,zE,zA,ha,hb,W,U,qJ hy];refine h1.mono ?_;rintro _ ab E;simp only[go_sem,zE,zA,qJ hz];refine (IH _ (E.keep _ _ _ O)).mono ?_;rintro _ aa A;simp only[go_sem];exact cO (E.trans A)
def sn (D:Nat->Prop):∀(d:Nat) (x:IV) (st:ISt),OK D d 4 st x->ICall prog gl 89 [x] st (λ_ st'=>Ow D st st')
 | 0,x,st,h=>GL gl h st
 | d+1,x,st,h=>by
  have part:∀ {U:ISt} {cells A:List IV} {k:Nat},cells.length=4->(∀j,j<4->∃y,cells[j]?=some y/\A[k*4+j]?=some y/\y.one=true/\y.def_)->(∀j y s',A[k*4+j]?=some y->nx 4 j=some s'->OK D d s' U y) →
    ICall prog gl 55 [.agg cells] U (λ_ st'=>Ow D U st'):=by
   intro U cells A k hl hc h2
   match cells,hl with
   | [a,b,y,z],_ =>
    obtain⟨_,e0,_,a0,_⟩:=hc 0 (by omega);obtain⟨_,e1,_,a1,_⟩:=hc 1 (by omega);obtain⟨_,e2,q2,a2,d2⟩:=hc 2 (by omega);obtain⟨_,e3,q3,a3,d3⟩:=hc 3 (by omega);cases e0;cases e1;cases e2;cases e3;exact zw gl a0 a1 a2 d2 a3 d3 (h2 2 _ 3 q2 rfl) (h2 3 _ 4 q3 rfl) (λst=>sn D d z st)
  rcases h with h|⟨g,n,c,cs,v,rfl,hD,hn,ao,hg,aj,h0,hv,ae,hi⟩
  ·exact GL gl h st
  have hw:OK D (d+1) 4 st (.raw (.slice (some ⟨g,0,none⟩) n c)):=.inr ⟨g,n,c,cs,v,rfl,hD,hn,ao,hg,aj,h0,hv,ae,hi⟩;clear hg aj h0 hv ae hi;have ay:IntKind.i64.wrap ((n:Int)+12)=((n+12:Nat):Int):=by rw[w64]<;>omega
  have ai:min (c:Int) ((n+12:Nat):Int)=((min c (n+12):Nat):Int):=by omega
  generalize hm:min c (n+12)=m at ai;have aA:m<=c:=by omega
  have aN:m<=281474976710000:=by omega
  refine iI func89 ?_;simp only[go_sem];refine cV n (λk fr st' ds=>fr 0=.iv (.raw (.slice (some ⟨g,0,none⟩) n c))/\fr 2=.iv (.raw (.int .i64 k))/\Ow D st st'/\ds=[]) ?_ ?_ ?_
  ·simp only[go_sem,reduceCtorEq];exact⟨rfl,Ow.refl _ _⟩
  ·rintro k fr U _ O ⟨f0,f2,ab,rfl⟩;obtain⟨e,A,v,he,_,_,_,af,aB,_,_,_,ar⟩:=(ab.keep _ _ _ hw).raw;obtain rfl:d=e:=by omega
   obtain⟨an,h2⟩:=ar k O;have ac:k*4+4<=A.length:=by
    have:=ec 4 (show k+1<=c by omega);omega
   obtain⟨cells,au,ag⟩:∃l,l=(A.drop (k*4)).take 4/\∀j,j<4->∃y,l[j]?=some y/\A[k*4+j]?=some y/\y.one=true/\y.def_:=⟨_,rfl,λj hj=>by
    obtain⟨y,hy,h⟩:=an j hj;exact⟨y,by rw[fl,b_ hj,ix];exact hy,hy,h⟩⟩
   have aC:cells.length=4:=by rw[au,dO,fp];omega
   have ak:=part aC ag h2;simp only[go_sem,zE,zA,reduceCtorEq,f0,f2,lt_i O,iNn,O,af,ac,au.symm];refine ak.mono ?_;rintro _ W E;simp only[go_sem,zE,reduceCtorEq,f0,f2,df O (by omega)];exact ab.trans E
  ·rintro fr U _ ⟨f0,f2,ab,rfl⟩;simp only[go_sem,zE,reduceCtorEq,f0,f2,dD (nLi _),ay,ai,ao,oz aA,ite_self,fY];refine cV m (λk fr st' ds=>fr 3=.iv (.raw (.slice (some ⟨g,0,none⟩) m c))/\fr 4=.iv (.raw (.int .i64 k))/\Ow D st st'/\ds=[]) ?_ ?_ ?_
   ·simp only[go_sem,zE];exact⟨rfl,ab⟩
   ·rintro k fr W _ O ⟨f3,f4,E,rfl⟩;obtain⟨e,A,v,he,_,_,_,af,aB,h0,hv,ae,ar⟩:=(E.keep _ _ _ hw).raw;have ac:k*4+4<=A.length:=by
     have:=ec 4 (show k+1<=c by omega);omega
    have az:=zp gl 2 k W;have ah:=Ow.put hD af h0 hv ae ac (wr4 2 k);simp only[go_sem,zE,zA,f3,f4,lt_i O];refine az.mono ?_;rintro _ W ⟨rfl,rfl⟩;generalize aa:W.put g (some (.box (eV A (k*4) (mkD 2 k))))=aJ at ah;have am:=E.trans ah;have av:(mkD 2 k).all IV.one=true:=rfl;have aq:(mkD 2 k).length=4:=rfl;unfold eV at aa;rw[aq] at aa;simp only[go_sem,zE,f3,f4,iNn,O,af,ac,av,aq,aa,df O (by omega)];exact am
   ·rintro fr W _ ⟨f3,f4,E,rfl⟩;simp only[go_sem,zE,f3,f4,dD (nLi _)];intros;exact cO E
def GN {D:Nat->Prop}{d:Nat}{y z:IV}{st:ISt}(U:y.one=true)(hy:y.def_)(O:z.one=true)(hz:z.def_)(h:OK D d 4 st y)(h':OK D d 4 st z) :
  ICall prog gl 54 [.agg [y,z]] st (λ_ st'=>Ow D st st'):=by
 have h1:=sn gl D d y st h;have h2:=λst=>sn gl D d z st;refine iI func54 ?_;simp only[go_sem,zE,zA,U,O,qJ hy];refine h1.mono ?_;rintro _ aa E;simp only[go_sem,zE,zA,qJ hz];refine (h2 _ (E.keep _ _ _ h')).mono ?_;rintro _ W A;simp only[go_sem];exact cO (E.trans A)
def zx {N:ISt}(O:lX N):∀(k:Nat) (us:List Tm),SizeOf.sizeOf us<k->∀(y:IV) (t:Tag) (U:List IV),(∃v,y=.raw v)->OI N y (.sl t U)->okEs t 3->IsTms us U->dfr (.sl t U)->∃d,OK (λb=>N b≠none) d 3 N y
 | 0,_,h=>by omega
 | k+1,us,hk=>by
  rintro y t U ⟨v,rfl⟩ ho aC az hd;simp only[dfr] at hd;cases ho with
  | nil _ h=>exact⟨0,.inr rfl⟩
  | sl g cap _ _ cs ab ar av hs aa E h =>
   have h3:=wZ aC ab;rw[h3] at E;have af:∀x∈U,x.cells.length=3:=λx hx=>by rw[hs x hx,h3]
   have aq:0<U.length:=by
    rcases hd.1 with hn|hp
    ·rw[ab] at hn;cases hn
    ·have:=hp.1
     rwa [wkE,h3,b_ (by decide)] at this
   have aR:=ec 3 av;have part:∀i,i<U.length->∃r0 r1 W v n D t' A,cs[3*i]?=some r0/\cs[3*i+1]?=some r1/\cs[3*i+2]?=some W/\Tm.mk v n D∈us/\r0=.raw (.bool v)/\r1=.raw (.string n)/\OI N W (.sl t' A)/\okEs t' 3/\IsTms D A/\dfr (.sl t' A):=λi hi=>by
    obtain⟨x,hx⟩:=dd hi;obtain⟨⟨v,n,D⟩,ha,aE⟩:=az.mem hx;have au:=lV hd.2.1 (lMg hx);obtain⟨t',A,rfl,aB,ak⟩:=aE.mk;obtain⟨r0,ao⟩:=dd (show 3*i<cs.length by omega);obtain⟨r1,an⟩:=dd (show 3*i+1<cs.length by omega);obtain⟨W,am⟩:=dd (show 3*i+2<cs.length by omega);have e0:=mz af hx (show 0<3 by omega);have e1:=mz af hx (show 1<3 by omega);have e2:=mz af hx (show 2<3 by omega);simp only[dfr] at au;exact⟨r0,r1,W,v,n,D,t',A,ao,an,am,lMg ha,(h _ _ _ ao e0).raw_eq,(h _ _ _ an e1).raw_eq,h _ _ _ am e2,aB,ak,lV au.1 (by simp)⟩
   have aw:∀i,i<U.length->∃d,∀y,cs[i*3+2]?=some y->OK (λb=>N b≠none) d 3 N y:=λi hi=>by
    obtain⟨r0,r1,W,v,n,D,t',A,_,_,k2,k3,_,_,k5,k6,k7,k8⟩:=part i hi;obtain⟨w,hw⟩:=nX (O _ _ aa W (lMg k2)) k5;obtain⟨d,hd⟩:=zx O k D (by have:=lSm k3;simp at this;omega) _ _ _ ⟨w,hw⟩ k5 k6 k7 k8;refine⟨d,λy hy=>?_⟩;rw[jU,k2] at hy;cases hy;exact hd
   obtain⟨d,aD⟩:=tJ (P:=λd i=>∀y,cs[i*3+2]?=some y->OK (λb=>N b≠none) d 3 N y) (λd i h y hy=>(h y hy).up) _ aw;obtain⟨r0,_,_,v,_,_,_,_,k0,_,_,_,q0,_⟩:=part 0 aq;refine⟨d+1,.inr ⟨g,U.length,cap,cs,.raw (.bool v),rfl,(by show N g≠none;rw[aa];exact λh=>by cases h),ar,av,aa,E,by rw[<- q0];exact k0,⟨v,rfl⟩,trivial,λi hi=>⟨λj hj=>?_,λj y s' hy hn=>by
    obtain⟨rfl,rfl⟩:=nx3 hn;exact aD i hi y hy⟩⟩⟩
   obtain⟨r0,r1,W,v,n,D,t',A,k0,k1,k2,_,q0,q1,k5,_⟩:=part i hi;obtain⟨w,hw⟩:=nX (O _ _ aa W (lMg k2)) k5;rw[jU]
   match j,hj with
   | 0,_=>exact⟨r0,k0,by rw[q0];exact⟨rfl,λh=>by cases h⟩⟩
   | 1,_=>exact⟨r1,k1,by rw[q1];exact⟨rfl,λh=>by cases h⟩⟩
   | 2,_ =>
    refine⟨W,k2,?_⟩;subst hw;refine⟨?_,λh=>by cases h⟩;cases k5<;>rfl
def uG {N:ISt}(E:lX N):∀(k:Nat) (us:List Fm),SizeOf.sizeOf us<k->∀(y:IV) (t:Tag) (xs:List IV),(∃v,y=.raw v)->OI N y (.sl t xs)->okEs t 4->IsFms us xs->dfr (.sl t xs)->∃d,OK (λb=>N b≠none) d 4 N y
 | 0,_,h=>by omega
 | k+1,us,hk=>by
  rintro y t xs ⟨v,rfl⟩ ho aN aK hd;simp only[dfr] at hd;cases ho with
  | nil _ h=>exact⟨0,.inr rfl⟩
  | sl g cap _ _ cs ai aC aE hs aa ac h =>
   have h3:=wZ aN ai;rw[h3] at ac;have ah:∀x∈xs,x.cells.length=4:=λx hx=>by rw[hs x hx,h3]
   have aB:0<xs.length:=by
    rcases hd.1 with hn|hp
    ·rw[ai] at hn;cases hn
    ·have:=hp.1
     rwa [wkE,h3,b_ (by decide)] at this
   have a7:=ec 4 aE;have part:∀i,i<xs.length->∃r0 r1 r2 r3 o n U D t' O W A,cs[4*i]?=some r0/\cs[4*i+1]?=some r1/\cs[4*i+2]?=some r2/\cs[4*i+3]?=some r3/\Fm.mk o n U D∈us/\r0=.raw (.int .u8 o)/\r1=.raw (.string n) /\
     (OI N r2 (.sl t' O)/\okEs t' 3/\IsTms U O/\dfr (.sl t' O))/\OI N r3 (.sl W A)/\okEs W 4/\IsFms D A/\dfr (.sl W A):=λi hi=>by
    obtain⟨x,hx⟩:=dd hi;obtain⟨⟨o,n,U,D⟩,ha,aO⟩:=aK.mem hx;have aq:=lV hd.2.1 (lMg hx);obtain⟨t',O,W,A,rfl,_,aM,av,aw,am⟩:=aO.mk;obtain⟨r0,aA⟩:=dd (show 4*i<cs.length by omega);obtain⟨r1,az⟩:=dd (show 4*i+1<cs.length by omega);obtain⟨r2,ay⟩:=dd (show 4*i+2<cs.length by omega);obtain⟨r3,ax⟩:=dd (show 4*i+3<cs.length by omega);have e0:=mz ah hx (show 0<4 by omega);have e1:=mz ah hx (show 1<4 by omega);have e2:=mz ah hx (show 2<4 by omega);have e3:=mz ah hx (show 3<4 by omega);simp only[dfr] at aq;exact⟨r0,r1,r2,r3,o,n,U,D,t',O,W,A,aA,az,ay,ax,lMg ha,(h _ _ _ aA e0).raw_eq,(h _ _ _ az e1).raw_eq,⟨h _ _ _ ay e2,aM,av,lV aq.1 (by simp)⟩,h _ _ _ ax e3,aw,am,lV aq.1 (by simp)⟩
   have aF:∀i,i<xs.length->∃d,(∀y,cs[i*4+2]?=some y->OK (λb=>N b≠none) d 3 N y)/\∀y,cs[i*4+3]?=some y->OK (λb=>N b≠none) d 4 N y:=λi hi=>by
    obtain⟨r0,r1,r2,r3,o,n,U,D,t',O,W,A,_,_,k2,k3,km,_,_,⟨a1,a2,a3,a4⟩,b1,b2,b3,b4⟩:=part i hi;obtain⟨w,hw⟩:=nX (E _ _ aa r2 (lMg k2)) a1;obtain⟨w',an⟩:=nX (E _ _ aa r3 (lMg k3)) b1;obtain⟨d,hd⟩:=zx E _ U (dM _) _ _ _ ⟨w,hw⟩ a1 a2 a3 a4;obtain⟨e,he⟩:=uG E k D (by have:=lSm km;simp at this;omega) _ _ _ ⟨w',an⟩ b1 b2 b3 b4;refine⟨d+e,λy hy=>?_,λy hy=>?_⟩
    ·rw[jU,k2] at hy;cases hy;exact hd.le (by omega)
    ·rw[jU,k3] at hy;cases hy;exact he.le (by omega)
   obtain⟨d,aD⟩:=tJ (P:=λd i=>(∀y,cs[i*4+2]?=some y->OK (λb=>N b≠none) d 3 N y)/\∀y,cs[i*4+3]?=some y->OK (λb=>N b≠none) d 4 N y) (λd i h=>⟨λy hy=>(h.1 y hy).up,λy hy=>(h.2 y hy).up⟩) _ aF;obtain⟨r0,_,_,_,o,nm,_,_,_,_,_,_,k0,kn,_,_,_,q0,qn,_⟩:=part 0 aB;refine⟨d+1,.inr ⟨g,xs.length,cap,cs,.raw (.int .u8 o),rfl,(by show N g≠none;rw[aa];exact λh=>by cases h),aC,aE,aa,ac,by rw[<- q0];exact k0,⟨o,rfl⟩,⟨nm,by rw[<- qn];exact kn⟩,λi hi=>⟨λj hj=>?_,λj y s' hy hn=>by
    rcases nx4 hn with⟨rfl,rfl⟩|⟨rfl,rfl⟩
    ·exact (aD i hi).1 y hy
    ·exact (aD i hi).2 y hy⟩⟩⟩
   obtain⟨r0,r1,r2,r3,o,n,U,D,t',O,W,A,k0,k1,k2,k3,_,q0,q1,⟨a1,_⟩,b1,_⟩:=part i hi;obtain⟨w,hw⟩:=nX (E _ _ aa r2 (lMg k2)) a1;obtain⟨w',an⟩:=nX (E _ _ aa r3 (lMg k3)) b1;rw[jU]
   match j,hj with
   | 0,_=>exact⟨r0,k0,by rw[q0];exact⟨rfl,λh=>by cases h⟩⟩
   | 1,_=>exact⟨r1,k1,by rw[q1];exact⟨rfl,λh=>by cases h⟩⟩
   | 2,_ =>
    refine⟨r2,k2,?_⟩;subst hw;refine⟨?_,λh=>by cases h⟩;cases a1<;>rfl
   | 3,_ =>
    refine⟨r3,k3,?_⟩;subst an;refine⟨?_,λh=>by cases h⟩;cases b1<;>rfl
end Go.Proofs.Tryz
namespace Go.Proofs.Tryz
open Go Go.Iv
set_option maxRecDepth 4000
def gZ {st:ISt}{y:IV}{v:Value}(h:OI st y (.raw v)):y=.raw v:=by cases h;rfl
def GO {st:ISt}{y D:IV}{v:Value}(h:OI st y (.tup [D,.raw v]))(A:rawY y):∃z,y=.tup [z,.raw v]/\OI st z D/\rawY z:=by
 cases h with
 | refl =>
  simp only[rawY] at A;exact⟨D,rfl,.refl _,sV A (by simp)⟩
 | tup rs _ E h =>
  match rs,E with
  | [a,b],_ =>
   obtain rfl:=gZ (h 1 _ _ rfl rfl);simp only[rawY] at A;exact⟨a,rfl,h 0 _ _ rfl rfl,sV A (by simp)⟩
def qB {N:ISt}{g:Nat}{cs cs':List IV}(hg:N g=some (.box cs))(hl:cs'.length=cs.length){y:IV}{t:Tag}(h:OI N y (.sl t [])):OI (N.put g (some (.box cs'))) y (.sl t []):=by
 cases h with
 | refl=>exact .refl _
 | nil _ h=>exact .nil _ h
 | sl g1 cap _ _ aa D A W hs E O h =>
  by_cases U:g1=g
  ·subst U;rw[hg] at E;cases E;exact .sl g1 cap t [] cs' D A W hs (cT ..) (by omega) λi r c _ hc=>by simp at hc
  ·exact .sl g1 cap t [] aa D A W hs (by rw[de U];exact E) O λi r c _ hc=>by simp at hc
mutual
def noA:Fm->Bool
 | .mk _ _ us sub=>us.isEmpty&&noAs sub
def noAs:List Fm->Bool
 | []=>true
 | a::l=>noA a&&noAs l
end
def GP:∀ {l:List Fm}{a:Fm},noAs l=true->a∈l->noA a=true
 | b::l,a,h,A=>by
  simp only[noAs,bAt] at h;rcases dC.1 A with rfl|A
  ·exact h.1
  ·exact GP h.2 A
def GQ:∀ {l:List Fm}{A:List IV}{x:IV},IsFms l A->x∈A->∃f,f∈l/\IsFm f x
 | [],A,x,h,hx=>by simp only[IsFms] at h;subst h;cases hx
 | a::l,A,x,h,hx=>by
  simp only[IsFms] at h;obtain⟨y,ys,rfl,D,h⟩:=h;rcases dC.1 hx with rfl|hx
  ·exact⟨a,by simp,D⟩
  ·obtain⟨f,E,hx⟩:=GQ h hx;exact⟨f,List.mem_cons_of_mem _ E,hx⟩
def uH {N:ISt}{g:Nat}{cs cs':List IV}(hg:N g=some (.box cs))(hb:∃b,cs[0]?=some (.raw (.bool b)))(hl:cs'.length=cs.length) :
  ∀(k:Nat) (l:List Fm),SizeOf.sizeOf l<k->noAs l=true->∀(t:Tag) (xs:List IV) (y:IV),IsFms l xs->OI N y (.sl t xs)->OI (N.put g (some (.box cs'))) y (.sl t xs)
 | 0,l,h,_,_,_,_,_,_=>absurd h (by omega)
 | k+1,l,hk,ak,t,xs,y,hx,h=>by
  cases h with
  | refl=>exact .refl _
  | nil _ h=>exact .nil _ h
  | sl g1 cap _ _ ag W U af hs D A h =>
   by_cases ab:g1=g
   ·subst ab;cases l with
    | nil =>
     obtain rfl:xs=[]:=hx;exact qB hg hl (.sl g1 cap t [] ag W U af hs D A h)
    | cons a l =>
     simp only[IsFms] at hx;obtain⟨z,ys,rfl,hz,_⟩:=hx;obtain⟨o,n,us,sub⟩:=a;obtain⟨t1,x1,t2,x2,rfl,_⟩:=hz.mk;obtain⟨b,hb⟩:=hb;rw[hg] at D;cases D;have:=gZ (h 0 _ (.raw (.int .u8 o)) hb (by simp[IV.cells]));cases this
   ·refine .sl g1 cap t xs ag W U af hs (by rw[de ab];exact D) A λi r c hr hc=>?_;have E:=h i r c hr hc;obtain⟨x,aj,ae⟩:=iy.1 (lMg hc);obtain⟨f,ac,hf⟩:=GQ hx aj;have O:=GP ak ac;obtain⟨op,nm,us,sub⟩:=f;obtain⟨t1,x1,t2,x2,rfl,ho,e1,i1,e2,i2⟩:=hf.mk;simp only[noA,bAt,List.isEmpty_iff] at O;obtain⟨rfl,O⟩:=O;obtain rfl:x1=[]:=i1;simp only[IV.cells,dC,e_,eu] at ae;rcases ae with rfl|rfl|rfl|rfl
    ·rw[gZ E];exact .refl _
    ·rw[gZ E];exact .refl _
    ·exact qB hg hl E
    ·refine uH hg hb hl k sub ?_ O t2 x2 r i2 E;have:=lSm ac;simp only[Fm.mk.sizeOf_spec] at this;omega
end Go.Proofs.Tryz
namespace Go.Iv
open Go
def oA {P:Program}{gl:Nat->Option IV}{f:FuncId}{st:ISt}{K:IV->ISt->Prop}{pre:List IV}(h:ICall P gl f [.agg (pre++[.sl ⟨true,.nil,0⟩ []])] st K):ICall P gl f [.agg (pre++[.raw (.slice none 0 0)])] st K:=by
 intro B X rs U D hv;refine h B X rs U D ⟨hv.1,λi r c A hc=>?_⟩;cases i with
 | zero =>
  simp only[fC,dL] at hc;subst hc;obtain⟨vs,rfl,hl,h2⟩:=lH (hv.2 0 r _ A rfl);refine .agg vs _ (by rw[hl];simp) λj r c A hc=>?_;by_cases hj:j<pre.length
  ·rw[fP hj] at hc;exact h2 j r c A (by rw[fP hj];exact hc)
  ·have O:=(lGs hc).1;simp only[lLa,iY] at O;obtain rfl:j=pre.length:=by omega
   rw[gh (dz _),jV] at hc;simp only[fC,dL] at hc;subst hc;have h3:=h2 _ r (.raw (.slice none 0 0)) A (by rw[gh (dz _),jV];rfl);obtain rfl:=dQ h3;exact .sl none 0 ⟨true,.nil,0⟩ [] 0 [] ⟨rfl,rfl,rfl⟩ (by simp) (by simp) (by simp) (by simp) (λg U=>by cases U) (λ_ ad W=>by cases W) (λE=>absurd rfl E) (λi r c A=>by simp at A)
 | succ i=>simp at hc
end Go.Iv
namespace Go.Proofs.Tryz
open Go Go.Iv
set_option maxRecDepth 4000
variable (gl:Nat->Option IV)
mutual
def TB:Tr->Prop
 | .mk _ s m u _ sub=>dt s.l<=1099511627776/\dt s.r<=1099511627776/\m.size<=1099511627776/\u.size<=1099511627776/\TBs sub
def TBs:List Tr->Prop
 | []=>True
 | a::l=>TB a/\TBs l
end
def GR:∀ {l:List Tr}{a:Tr},TBs l->a∈l->TB a
 | b::l,a,h,A=>by
  simp only[TBs] at h;rcases dC.1 A with rfl|A
  ·exact h.1
  ·exact GR h.2 A
def ttC (t:Tr):Prop:=∀(x:IV) (_:IsTr t x) (_:TB t) (_:t.steps<=1000000) (st:ISt),ICall prog gl 16 [x] st (λr st'=>IsTr t r/\st'=st)
def Qa (rule:Nat)(s:Sq)(f:Fm)(u:Tm)(n:ByteArray)(sub:List Tr)(IH:∀a∈sub,ttC gl a):ttC gl (.mk rule s f u n sub):=by
 intro x hx A aJ st;obtain⟨tl,xl,tr,xr,op,fn,ta,xa,tb,xb,v,un,tu,xu,ts,xs,rfl,aK,e1,i1,e2,i2,hy,hz,e3,i3⟩:=hx.mk;simp only[Tr.steps] at aJ;simp only[TB] at A;have aL:=ow sub;have h1:=λst=>Mp gl s (.agg [.sl tl xl,.sl tr xr]) ⟨tl,xl,tr,xr,rfl,e1,i1,e2,i2⟩ A.1 A.2.1 st;have h2:=λst=>xB gl f _ hy A.2.2.1 st;have h3:=λst=>Mn gl u _ hz A.2.2.2.1 st;refine ICall.intro (c:=cf prog gl [] [(1,[0,1,2,3,5,6,8,9,11,12,14,4,7,10,13,15])]) func16 rfl (by show _<=38;simp) (by kernel_rfl) ?_;simp only[go_sem,zE,zA,zL];refine (h1 _).mono ?_;rintro _ st ⟨⟨c1,y1,c2,y2,rfl,g1,_,k1,g2,_,k2⟩,rfl⟩;simp only[go_sem,zE,zA];refine (h2 _).mono ?_;rintro r2 st ⟨ai,rfl⟩;obtain⟨o2,n2,aF,av,aD,ar,rfl⟩:=jD ai;simp only[go_sem,zE,zA];refine (h3 _).mono ?_;rintro r3 st ⟨ah,rfl⟩;obtain⟨v3,n3,t3,x3,rfl⟩:=ah.agg;simp only[go_sem,zE,zA,zL,fits];refine cV sub.length (λk fr st' ds=>(∃O ys,fr 3=.box [.raw (.int .u8 rule),.sl c1 y1,.sl c2 y2,.raw (.int .u8 o2),n2,.sl aF av,.sl aD ar,v3,n3,.sl t3 x3,n,.sl O ys]/\IsTrs (sub.take k) ys/\own st' O k 12 st/\subSt st st') /\
  fr 1=.box [.raw (.int .u8 rule),.sl tl xl,.sl tr xr,.raw (.int .u8 op),fn,.sl ta xa,.sl tb xb,v,un,.sl tu xu,n,.sl ts xs] /\
  fr 2=.box trZ/\fr 4=.iv (.raw (.int .i64 k))/\ds=[]) ?_ ?_ ?_
 ·simp only[go_sem,zE,trZ];exact⟨⟨_,_,rfl,rfl,own.nil _ _ _ _ _,subSt.refl _⟩,rfl⟩
 ·rintro k fr aH _ ab ⟨⟨O,ys,f3,hys,E,D⟩,f1,f2,f4,rfl⟩;obtain⟨a,ha⟩:=dd ab;have af:=lMg ha;obtain⟨z,aM,ag⟩:=i3.get ha;have ac:ys.length=k:=by rw[hys.len,dO];omega
  have ae:=λst=>IH a af z ag (GR A.2.2.2.2 af) (by have:=xZ af;omega) st;obtain⟨U,aB,ao,aA,am,aI,aO,aG,aw,aE,au,v',ax,ay,aj,n',az,ak,rfl⟩:=gg ag;simp only[go_sem,zE,zB,zA,f1,f3,f4,i3.len,lt_i ab,dc e3,iNn,aM,fits];intro _;refine (ae _).mono ?_;rintro r _ ⟨hr,rfl⟩;have hn:IsTrs (sub.take (k+1)) (ys++[r]):=by
   rw[dK ha];exact hys.append ⟨_,_,rfl,hr,rfl⟩
  obtain⟨U,aB,ao,aA,am,aI,aO,aG,aw,aE,au,v',ax,ay,aj,n',az,ak,rfl⟩:=gg hr;simp only[go_sem,zE,zA,zM,zL,fits,dP];refine iG E ac D rfl (by simp[fits,IV.one]) (by simp only;omega) (by omega) λaC st4 aa W _ aS=>?_;simp only[go_sem,zE,zA,zL,f1,f2,f3,f4,df ab (by omega)];exact⟨aC,_,rfl,hn,aa,W⟩
 ·rintro fr aH _ ⟨⟨O,ys,f3,hys,E,D⟩,f1,f2,f4,rfl⟩;rw[lTl] at hys;unfold trZ at f2;simp only[go_sem,zE,zA,zL,f1,f2,f3,f4,i3.len,dD (nLi _)];intro _;refine dZ (st':=st) D ⟨?_,rfl⟩;simp only[IsTr];exact⟨_,_,_,_,_,_,_,_,_,_,_,_,_,_,_,_,rfl,aK,g1,k1.1,g2,k2.1,ai.1,ah.1,E.es,hys⟩
def GS:∀(k:Nat)(t:Tr),SizeOf.sizeOf t<k->ttC gl t
 | 0,t,h=>by omega
 | k+1,.mk r sq f u n sub,h=>Qa gl r sq f u n sub (λa A=>GS k a (by
   have:=lSm A;simp at h;omega))
def oB (v:Value):(IV.raw v).def_:=λh=>by cases h
def Qb (D:Nat->Prop):∀(d:Nat) (r l l' o m a b v u t n' ts:IV) (st:ISt),(∀y∈[r,l,l',o,m,a,b,v,u,t,n',ts],rawO y)->OK D d 4 st l->OK D d 4 st l'->OK D d 3 st a->OK D d 4 st b->OT D d st ts →
  ICall prog gl 19 [.agg [r,l,l',o,m,a,b,v,u,t,n',ts]] st (λ_ st'=>Ow D st st'):=by
 intro d
 induction d with
 | zero =>
  intro r l l' o m a b v u t n' ts st hr hl aD ha hb ht;simp only[List.forall_mem_cons] at hr;obtain⟨⟨w0,rfl,r0⟩,⟨w1,rfl,r1⟩,⟨w2,rfl,r2⟩,⟨w3,rfl,r3⟩,⟨w4,rfl,r4⟩,⟨w5,rfl,r5⟩,⟨w6,rfl,r6⟩,⟨w7,rfl,r7⟩,⟨w8,rfl,r8⟩,⟨w9,rfl,r9⟩,⟨aa,rfl,ae⟩,⟨aS,rfl,ag⟩,_⟩:=hr;have h1:=GN gl r1 (oB _) r2 (oB _) hl aD;have h2:=λst (k:Ow D _ st)=>zw gl r3 r4 r5 (oB _) r6 (oB _) (k.keep _ _ _ ha) (k.keep _ _ _ hb) (λst h=>sn gl D _ _ st h);rcases ht with he|⟨q,c,he⟩
  ·cases he;refine oA (pre:=[.raw w0,.raw w1,.raw w2,.raw w3,.raw w4,.raw w5,.raw w6,.raw w7,.raw w8,.raw w9,.raw aa]) ?_;simp only[dX,gz];refine iI func19 ?_;simp only[go_sem,zE,zA,zL,r0,r1,r2,r3,r4,r5,r6,r7,r8,r9,ae];refine h1.mono ?_;rintro _ U A;simp only[go_sem,zE,zA,zL];refine (h2 _ A).mono ?_;rintro _ af O;have W:=A.trans O;simp only[go_sem];refine cV 0 (λk fr st' ds=>fr 1=.box [.raw w0,.raw w1,.raw w2,.raw w3,.raw w4,.raw w5,.raw w6,.raw w7,.raw w8,.raw w9,.raw aa,()]/\fr 2=(0:Int)/\Ow D st st'/\ds=[]) ?_ ?_ ?_
   ·simp only[go_sem,zE];exact W
   ·intro k fr U _ ab;omega
   ·rintro fr U _ ⟨f1,f2,E,rfl⟩;simp only[go_sem,zE,zL,f1,f2,fN,show decide ((0:Int)<((0:Nat):Int))=false from rfl];intros;exact cO E
  ·cases he;refine iI func19 ?_;simp only[go_sem,zE,zA,zL,r0,r1,r2,r3,r4,r5,r6,r7,r8,r9,ae,ag];refine h1.mono ?_;rintro _ U A;simp only[go_sem,zE,zA,zL];refine (h2 _ A).mono ?_;rintro _ af O;have W:=A.trans O;simp only[go_sem];refine cV 0 (λk fr st' ds=>fr 1=.box [.raw w0,.raw w1,.raw w2,.raw w3,.raw w4,.raw w5,.raw w6,.raw w7,.raw w8,.raw w9,.raw aa,.raw (.slice (some ⟨q,0,none⟩) 0 c)]/\fr 2=(0:Int)/\Ow D st st'/\ds=[]) ?_ ?_ ?_
   ·simp only[go_sem,zE];exact W
   ·intro k fr U _ ab;omega
   ·rintro fr U _ ⟨f1,f2,E,rfl⟩;simp only[go_sem,zE,f1,f2,show decide ((0:Int)<((0:Nat):Int))=false from rfl];intros;exact cO E
 | succ d IH =>
  intro r l l' o m a b v u t n' ts st hr hl aD ha hb ht;simp only[List.forall_mem_cons] at hr;obtain⟨⟨w0,rfl,r0⟩,⟨w1,rfl,r1⟩,⟨w2,rfl,r2⟩,⟨w3,rfl,r3⟩,⟨w4,rfl,r4⟩,⟨w5,rfl,r5⟩,⟨w6,rfl,r6⟩,⟨w7,rfl,r7⟩,⟨w8,rfl,r8⟩,⟨w9,rfl,r9⟩,⟨aa,rfl,ae⟩,⟨aS,rfl,ag⟩,_⟩:=hr;have h1:=GN gl r1 (oB _) r2 (oB _) hl aD;have h2:=λst (k:Ow D _ st)=>zw gl r3 r4 r5 (oB _) r6 (oB _) (k.keep _ _ _ ha) (k.keep _ _ _ hb) (λst h=>sn gl D _ _ st h);rcases ht with ht|⟨g,n,c,cs,he,hn,aW,hg,aL,aC,ah⟩
  ·rcases ht with he|⟨q,c,he⟩
   ·cases he;refine oA (pre:=[.raw w0,.raw w1,.raw w2,.raw w3,.raw w4,.raw w5,.raw w6,.raw w7,.raw w8,.raw w9,.raw aa]) ?_;simp only[dX,gz];refine iI func19 ?_;simp only[go_sem,zE,zA,zL,r0,r1,r2,r3,r4,r5,r6,r7,r8,r9,ae];refine h1.mono ?_;rintro _ U A;simp only[go_sem,zE,zA,zL];refine (h2 _ A).mono ?_;rintro _ af O;have W:=A.trans O;simp only[go_sem];refine cV 0 (λk fr st' ds=>fr 1=.box [.raw w0,.raw w1,.raw w2,.raw w3,.raw w4,.raw w5,.raw w6,.raw w7,.raw w8,.raw w9,.raw aa,()]/\fr 2=(0:Int)/\Ow D st st'/\ds=[]) ?_ ?_ ?_
    ·simp only[go_sem,zE];exact W
    ·intro k fr U _ ab;omega
    ·rintro fr U _ ⟨f1,f2,E,rfl⟩;simp only[go_sem,zE,zL,f1,f2,fN,show decide ((0:Int)<((0:Nat):Int))=false from rfl];intros;exact cO E
   ·cases he;refine iI func19 ?_;simp only[go_sem,zE,zA,zL,r0,r1,r2,r3,r4,r5,r6,r7,r8,r9,ae,ag];refine h1.mono ?_;rintro _ U A;simp only[go_sem,zE,zA,zL];refine (h2 _ A).mono ?_;rintro _ af O;have W:=A.trans O;simp only[go_sem];refine cV 0 (λk fr st' ds=>fr 1=.box [.raw w0,.raw w1,.raw w2,.raw w3,.raw w4,.raw w5,.raw w6,.raw w7,.raw w8,.raw w9,.raw aa,.raw (.slice (some ⟨q,0,none⟩) 0 c)]/\fr 2=(0:Int)/\Ow D st st'/\ds=[]) ?_ ?_ ?_
    ·simp only[go_sem,zE];exact W
    ·intro k fr U _ ab;omega
    ·rintro fr U _ ⟨f1,f2,E,rfl⟩;simp only[go_sem,zE,f1,f2,show decide ((0:Int)<((0:Nat):Int))=false from rfl];intros;exact cO E
  cases he;have hw:OT D (d+1) st (.raw (.slice (some ⟨g,0,none⟩) n c)):=.inr ⟨g,n,c,cs,rfl,hn,aW,hg,aL,aC,ah⟩;clear hg aL aC ah;refine iI func19 ?_;simp only[go_sem,zE,zA,zL,r0,r1,r2,r3,r4,r5,r6,r7,r8,r9,ae,ag];refine h1.mono ?_;rintro _ U A;simp only[go_sem,zE,zA,zL];refine (h2 _ A).mono ?_;rintro _ af O;have W:=A.trans O;simp only[go_sem];refine cV n (λk fr st' ds=>fr 1=.box [.raw w0,.raw w1,.raw w2,.raw w3,.raw w4,.raw w5,.raw w6,.raw w7,.raw w8,.raw w9,.raw aa,.raw (.slice (some ⟨g,0,none⟩) n c)]/\fr 2=.iv (.raw (.int .i64 k))/\Ow D st st'/\ds=[]) ?_ ?_ ?_
  ·simp only[go_sem,zE];exact⟨rfl,W⟩
  ·rintro k fr aJ _ ab ⟨f1,f2,E,rfl⟩;rcases E.keepT _ _ hw with (he|⟨_,_,he⟩)|⟨g',n1,c1,a7,he,_,_,aZ,_,bt,ah⟩
   ·cases he
   ·cases he;omega
   cases he;obtain⟨q0,q1,q2,q3,q4,q5,q6,q7,q8,q9,aU,aT,hq,aV,k1,k2,k3,k4,k5⟩:=ah k ab;have aX:k*12+12<=a7.length:=by
    have:=ec 12 (show k+1<=n by omega);omega
   have aE:=IH q0 q1 q2 q3 q4 q5 q6 q7 q8 q9 aU aT aJ aV k1 k2 k3 k4 k5;simp only[go_sem,zE,zB,zA,f1,f2,lt_i ab,iNn,ab,aZ,aX,hq,fits];intros;refine aE.mono ?_;rintro _ st4 aO;simp only[go_sem,zE,f1,f2,df ab (by omega)];exact E.trans aO
  ·rintro fr aJ _ ⟨f1,f2,E,rfl⟩;simp only[go_sem,zE,f1,f2,dD (nLi _)];intros;exact cO E
def GU {N:ISt}{y:IV}{t:Tag}{A:List IV}(h:OI N y (.sl t A))(D:∃v,y=.raw v):∃a n c,y=.raw (.slice a n c)/\n=A.length:=by
 cases h with
 | refl=>obtain⟨v,h⟩:=D;cases h
 | nil=>exact⟨_,_,_,rfl,rfl⟩
 | sl=>exact⟨_,_,_,rfl,rfl⟩
def TrO (D:Nat->Prop)(d:Nat)(N:ISt)(ys:List IV):Prop:=∃r l E o m a b v u t O A,ys=[r,l,E,o,m,a,b,v,u,t,O,A]/\(∀y∈[r,l,E,o,m,a,b,v,u,t,O,A],rawO y)/\OK D d 4 N l/\OK D d 4 N E/\OK D d 3 N a/\OK D d 4 N b/\OT D d N A
def TrO.le {D:Nat->Prop}{d e:Nat}{N:ISt}{ys:List IV}(h:TrO D d N ys)(A:d<=e):TrO D e N ys:=by
 obtain⟨r,l,l',o,m,a,b,v,u,t,n',E,q1,q2,q3,q4,W,U,O⟩:=h;exact⟨r,l,l',o,m,a,b,v,u,t,n',E,q1,q2,q3.le A,q4.le A,W.le A,U.le A,O.le A⟩
def OTs (N:ISt)(us:List Tr):Prop:=∀(y:IV) (t:Tag) (A:List IV),(∃v,y=.raw v)->OI N y (.sl t A)->okEs t 12->IsTrs us A->dfr (.sl t A)->∃d,OT (λb=>N b≠none) d N y
def slO {N:ISt}{y:IV}{t:Tag}{A:List IV}(h:OI N y (.sl t A))(D:∃v,y=.raw v):rawO y:=by
 obtain⟨a,n,c,rfl,_⟩:=GU h D;exact⟨_,rfl,PG a n c⟩
def GV {N:ISt}(D:lX N){rule:Nat}{s:Sq}{f:Fm}{u:Tm}{nm:ByteArray}{sub:List Tr}{x:IV}(hx:IsTr (.mk rule s f u nm sub) x)(hd:dfr x){ys:List IV}(hl:ys.length=12)(hc:∀(j:Nat)(r c:IV),ys[j]?=some r->x.cells[j]?=some c->OI N r c)
  (U:∀(r:IV) (t:Tag) (xs:List IV),r∈ys->OI N r (.sl t xs)->∃v,r=.raw v) (IH:OTs N sub):∃d,TrO (λb=>N b≠none) d N ys:=by
 obtain⟨tl,xl,tr,xr,op,fn,ta,xa,tb,xb,v,un,tu,xu,ts,xs,rfl,a7,e1,i1,e2,i2,hy,hz,e3,i3⟩:=hx.mk;obtain⟨_,_,_,_,ai⟩:∃(aL:Tag) (aI:List IV) (aK:Tag) (aH:List IV),okEs ta 3/\okEs tb 4/\(∃E,IsTms E xa)/\∃A,IsFms A xb:=by
  obtain⟨o',n',E,A⟩:=f;obtain⟨_,_,_,_,he,_,h1,h2,h3,h4⟩:=hy.mk;cases he;exact⟨ta,xa,tb,xb,h1,h3,⟨_,h2⟩,_,h4⟩
 obtain⟨ea,eb,⟨E,ia⟩,A,ib⟩:=ai;rw[dfr] at hd;obtain⟨_,d1,d2,_,_,d5,d6,_,_,_,_,d11,_⟩:=hd.1
 match ys,hl with
 | [q0,q1,q2,q3,q4,q5,q6,q7,q8,q9,ac,aa],_ =>
  have o0:=gZ (hc 0 _ _ rfl rfl);have o1:=hc 1 _ _ rfl rfl;have o2:=hc 2 _ _ rfl rfl;have o3:=gZ (hc 3 _ _ rfl rfl);have o4:=gZ (hc 4 _ _ rfl rfl);have o5:=hc 5 _ _ rfl rfl;have o6:=hc 6 _ _ rfl rfl;have o7:=gZ (hc 7 _ _ rfl rfl);have o8:=gZ (hc 8 _ _ rfl rfl);have o9:=hc 9 _ _ rfl rfl;have ab:=gZ (hc 10 _ _ rfl rfl);have O:=hc 11 _ _ rfl rfl;have w1:=U q1 _ _ (by simp) o1;have w2:=U q2 _ _ (by simp) o2;have w5:=U q5 _ _ (by simp) o5;have w6:=U q6 _ _ (by simp) o6;have w9:=U q9 _ _ (by simp) o9;have W:=U aa _ _ (by simp) O;obtain⟨a1,k1⟩:=uG D _ s.l (dM _) _ _ _ w1 o1 e1 i1 d1;obtain⟨a2,k2⟩:=uG D _ s.r (dM _) _ _ _ w2 o2 e2 i2 d2;obtain⟨a3,k3⟩:=zx D _ E (dM _) _ _ _ w5 o5 ea ia d5;obtain⟨a4,k4⟩:=uG D _ A (dM _) _ _ _ w6 o6 eb ib d6;obtain⟨a5,k5⟩:=IH _ _ _ W O e3 i3 d11;refine⟨a1+a2+a3+a4+a5,q0,q1,q2,q3,q4,q5,q6,q7,q8,q9,ac,aa,rfl,?_,k1.le (by omega),k2.le (by omega),k3.le (by omega),k4.le (by omega),k5.le (by omega)⟩;simp only[List.forall_mem_cons];exact⟨⟨_,o0,by rw[o0];rfl⟩,slO o1 w1,slO o2 w2,⟨_,o3,by rw[o3];rfl⟩,⟨_,o4,by rw[o4];rfl⟩,slO o5 w5,slO o6 w6,⟨_,o7,by rw[o7];rfl⟩,⟨_,o8,by rw[o8];rfl⟩,slO o9 w9,⟨_,ab,by rw[ab];rfl⟩,slO O W,by simp⟩
def GW {N:ISt}(D:lX N):∀(k:Nat) (us:List Tr),SizeOf.sizeOf us<k->OTs N us
 | 0,_,h=>by omega
 | k+1,us,hk=>by
  rintro y t xs ⟨v,rfl⟩ ho ao O hd;have am:=O.len;cases ho with
  | nil _ h=>exact⟨0,.inl rfl⟩
  | sl g cap _ _ cs ah af ag hs U W h =>
   have h3:=wZ ao ah;rw[h3] at W;have A:∀x∈xs,x.cells.length=12:=λx hx=>by rw[hs x hx,h3]
   by_cases ae:xs.length=0
   ·exact⟨0,.inr ⟨g,cap,by rw[ae]⟩⟩
   rw[dfr] at hd;have aK:=ec 12 ag;have aq:∀i,i<xs.length->∃d,TrO (λb=>N b≠none) d N ((cs.drop (i*12)).take 12):=λi hi=>by
    obtain⟨⟨rule,s,f,u,nm,sub⟩,ha⟩:=dd (l:=us) (k:=i) (by omega);obtain⟨z,E,hz⟩:=O.get ha;have aG:=A z (lMg E);have aJ:i*12+12<=cs.length:=by
     have:=ec 12 (show i+1<=xs.length by omega);omega
    refine GV D hz (lV hd.2.1 (lMg E)) (by rw[dO,fp];omega) (λj r c h1 h2=>?_) (λr t' aj hr ho=>nX (D _ _ U r (lG (List.mem_of_mem_take hr))) ho) (GW D k sub (by have:=lSm (lMg ha);simp at this;omega));have hj:j<12:=by have:=(lGs h2).1;omega
    rw[fl,b_ hj,ix] at h1;exact h _ r c h1 (by rw[jU i 12,mz A E hj];exact h2)
   obtain⟨d,ar⟩:=tJ (P:=λd i=>TrO (λb=>N b≠none) d N ((cs.drop (i*12)).take 12)) (λd i h=>h.le (Nat.le_succ d)) _ aq;have au:GH cs:=by
    obtain⟨⟨rule,s,f,u,nm,sub⟩,ha⟩:=dd (l:=us) (k:=0) (by omega);obtain⟨z,E,hz⟩:=O.get ha;obtain⟨tl,xl,tr,xr,op,fn,ta,xa,tb,xb,v,un,tu,xu,aA,aj,rfl,_⟩:=hz.mk;obtain⟨r0,ac⟩:=dd (l:=cs) (k:=0) (by omega);obtain⟨r1,aa⟩:=dd (l:=cs) (k:=1) (by omega);have o0:=gZ (h _ _ _ ac (mz A E (show 0<12 by omega)));have o1:=h _ _ _ aa (mz A E (show 1<12 by omega));obtain⟨a,n,c,rfl,_⟩:=GU o1 (nX (D _ _ U r1 (lMg aa)) o1);exact⟨⟨_,by rw[<- o0];exact ac⟩,(a,n,c),aa⟩
   refine⟨d+1,.inr ⟨g,xs.length,cap,cs,rfl,af,ag,U,au,by omega,λi hi=>?_⟩⟩;obtain⟨r,l,l',o,m,a,b,v,u,t',n',ts,q⟩:=ar i hi;exact⟨r,l,l',o,m,a,b,v,u,t',n',ts,q⟩
def Qc {N:ISt}(A:lX N){t:Tr}{y x:IV}(hx:IsTr t x)(hd:dfr x)(W:OI N y x)(D:rawY y):∃ys d,y=.agg ys/\TrO (λb=>N b≠none) d N ys:=by
 obtain⟨rule,s,f,u,nm,sub⟩:=t;have U:=hx;obtain⟨E,am,ae,ak,ac,aq,av,ao,ag,an,af,v',ah,ai,aa,n',aj,ab,rfl⟩:=gg hx;cases W with
 | refl=>simp only[rawY,mV] at D;exact D.2.1.elim
 | agg rs _ hl h =>
  simp only[rawY] at D;obtain⟨d,hd⟩:=GV A U hd hl (λj r c h1 h2=>h j r c h1 h2) (λr t xs hr W=>by
   have O:=sV D hr;cases W with
   | refl=>simp only[rawY] at O
   | nil=>exact⟨_,rfl⟩
   | sl=>exact⟨_,rfl⟩) (GW A _ sub (dM _))
  exact⟨rs,d,rfl,hd⟩
noncomputable def allT (l q:List Mk):Bool:=!q.any λm=>!hasT l m
def Qd (l:List Mk)(A:Nat)(x:IV)(hx:IsBr l A x)(m:Mk)(y:IV)(D:IsMk m y)(st:ISt):ICall prog gl 197 [y,.cptr (.cptr x)] st (λr st'=>r=(!hasT l m:Bool)/\st'=st):=by
 have h1:=λst=>yo gl l A x hx m y D st;obtain⟨_,_,_,_,_,_,rfl⟩:=D.agg;refine iI func197 ?_;simp only[go_sem,zE,zA,zL,fits];refine (h1 _).q ?_;simp only[go_sem];exact cO ⟨rfl,rfl⟩
def Qe (l:List Mk)(E:Nat)(x:IV)(hx:IsBr l E x)(q:List Mk)(A:Tag)(zs:List IV)(D:okEs A 6)(hzs:IsMks q zs)(st:ISt) :
  ICall prog gl 168 [.cptr x,.sl A zs] st (λr st'=>r=(allT l q:Bool)/\st'=st):=by
 have h1:=λst=>yn gl 197 [.cptr (.cptr x)] (by simp only[go_sem]) q (λa=>!hasT l a) st (λa _ y O=>Qd gl l E x hx a y O st) A zs D hzs;refine ICall.intro (c:=cf prog gl [] [] [2]) func168 rfl (by show _<=9;simp) (by kernel_rfl) ?_;simp only[go_sem,zE,zA];refine (h1 _).q ?_;simp only[go_sem];exact cO ⟨rfl,rfl⟩
def useI (x:IV)(k:Nat):List IV:=[.cptr (.cptr x),.cptr (.raw (.int .u8 k))]
def Qf (x:IV)(k:Nat)(A:k<256)(st:ISt):ICall prog gl 167 [.cptr x,.raw (.int .u8 k)] st (λr st'=>r=.fn (.func 196) [] (useI x k)/\st'=st):=by
 refine ICall.intro (c:=cf prog gl [] [] [2,3]) func167 rfl (by show _<=6;simp) (by kernel_rfl) ?_;simp only[go_sem,zE];exact cO ⟨rfl,rfl⟩
def gH (l:List Mk)(k:Nat):List Mk:=l.filter λm=>decide ((eJ m).1=k)
def mkX (q:List Mk)(k:Nat)(a:List IV):Prop:=∃m y,q[k]?=some m/\IsMk m y/\a=[y]
def Qg (l:List Mk)(tb:Nat)(x:IV)(hx:IsBr l tb x)(hl:l.length<=1000000)(k:Nat)(hk:k<256)(es:List (Value×IV))(ht:lu es) :
  IterC prog gl 196 [] (useI x k) (mkX (gH l k)) (gH l k).length (λ_ st=>st tb=some (.map .sg es)):=by
 rintro y I' S' st ⟨g,fi,ca,rfl,aC,ae⟩ hI hy h0;change ICall prog gl _ [.fn g fi ca,_,_] st _;obtain⟨t,xs,t',v,rfl,ai,aD,aa,aA,az⟩:=hx;refine ICall.intro (c:=cf prog gl [] [(3,[0,1,2,3,4,5,8,6,7,9,10,11,12,13,14,15])]) func196 rfl (by show _<=32;simp) (by kernel_rfl) ?_;simp only[go_sem,fits,brI,aa.len];intro _;refine cV l.length (λj fr st' ds=>I' (gH (l.take j) k).length st'/\fr 0=.iv (.fn g fi ca)/\fr 1=.iv (.cptr (.cptr (.agg (brI tb t xs t' v))))/\fr 2=.iv (.cptr (.raw (.int .u8 k)))/\fr 9=.iv (.sl t xs)/\fr 10=.iv (.raw (.int .i64 l.length))/\fr 11=.iv (.raw (.int .i64 j))/\ds=[]) ?_ ?_ ?_
 ·simp only[go_sem,zE,reduceCtorEq];exact⟨h0,rfl,rfl⟩
 ·rintro j fr D _ E ⟨A,f0,f1,f2,f9,f10,f11,rfl⟩;obtain⟨ar,ak,an⟩:=hI _ D A;have hb:=ak _ _ an;obtain⟨a,ha⟩:=dd E;obtain⟨z,am,hz⟩:=aa.get ha;have W:=λst hb=>rR gl a z hz st tb es hb ht;have ag:=hz;obtain⟨o5,n5,t5,x5,t6,x6,rfl,h1⟩:=hz;simp only[go_sem,zE,zB,zA,zL,f1,f2,f9,f10,f11,lt_i E,dc ai,iNn,am,fits,brI];refine (W _ hb).q ?_;have U:gH (l.take (j+1)) k=gH (l.take j) k++gH [a] k:=by rw[dK ha,gH,lC];rfl
  by_cases ab:(eJ a).1=k
  ·have dk:decide (((eJ a).1:Int)=(k:Int))=true:=dEt (by omega);have O:gH [a] k=[a]:=by simp[gH,ab]
   have ac:(gH l k)[(gH (l.take j) k).length]?=some a:=by
    have aj:gH l k=gH (l.take (j+1)) k++gH (l.drop (j+1)) k:=by
     conv=>lhs;rw[<- eF (j+1) l]
     rw[gH,lC];rfl
    rw[aj,U,O,fA,gh (dz _),jV];rfl
   simp only[go_sem,zE,zA,zL,reduceCtorEq,rowF,dk,f0];refine pQ ae ((hy _ _ D ⟨a,_,ac,ag,rfl⟩ A).mono ?_);rintro _ ax (⟨rfl,h⟩|⟨rfl,h⟩)
   ·simp only[go_sem,zE,reduceCtorEq,f0,f1,f2,f9,f10,f11,df E (by omega)];exact⟨by rw[U,O,lLa];exact h,rfl⟩
   ·simp only[go_sem,zE];exact cO (.inr h)
  ·have dk:decide (((eJ a).1:Int)=(k:Int))=false:=dEf (by omega);have O:gH [a] k=[]:=by simp[gH,ab]
   simp only[go_sem,zE,reduceCtorEq,rowF,dk,f0,f1,f2,f9,f10,f11,df E (by omega)];exact⟨by rw[U,O,fH];exact A,rfl⟩
 ·rintro fr D _ ⟨A,f0,f1,f2,f9,f10,f11,rfl⟩;rw[lTl] at A;simp only[go_sem,f10,f11,dD (nLi _)];exact cO (.inl A)
noncomputable def pt (l:List Mk):Option (Mk×Bool) :=
 match l.find? (lr l) with
 | some m=>some (m,true)
 | none=>((gH l 1).find? λm=>!allT l (((dY m 0)[0]?).getD [])).map λm=>(m,false)
def IsN0 (m:Mk)(c:Bool)(z:IV):Prop:=∃(o:Int) (n:ByteArray) (t:Tag) (A:List IV) (D:Tag) (ys:List IV),z=.agg [m.is,m.w,.raw (.int .u8 o),n,.sl t A,.sl D ys,c,(0:Int),()]/\IsFm m.f (.agg [.raw (.int .u8 o),n,.sl t A,.sl D ys])
def GX {p:Mk->Bool}{l:List Mk}{k:Nat}{a:Mk}(A:l[k]?=some a)(h:(l.take k).find? p=none)(hp:p a=false):(l.take (k+1)).find? p=none:=by
 rw[dK A,lD,h,Option.none_or];simp[hp]
def GY {p:Mk->Bool}{l:List Mk}{k:Nat}{a:Mk}(A:l[k]?=some a)(h:(l.take k).find? p=none)(hp:p a=true):l.find? p=some a:=by
 conv=>lhs;rw[<- eF (k+1) l]
 rw[lD,dK A,lD,h,Option.none_or];simp[hp]
def Qh {m:Mk}{w:Int}(h:(eJ m).1≠0):0<(dY m w).length:=by
 unfold dY;rw[a_ h,gj];exact (E_ _ _ _ _).1
def Qi (l:List Mk)(tb:Nat)(x:IV)(hx:IsBr l tb x)(hl:l.length<=1000000)(hg:∀m∈l,m.f.op<=7)(m:Mk)(c:Bool)(h:pt l=some (m,c))(st:ISt)(es:List (Value×IV))(hb:st tb=some (.map .sg es))(ht:lu es) :
  ICall prog gl 128 [.cptr x] st (λr st'=>∃z,r=.tup [z,true]/\IsN0 m c z/\st'=st):=by
 have aM:=λm y hy st=>Eg gl l tb x hx m y hy st;have aA:=λst=>Qf gl x 1 (by decide) st;have aK:=Qg gl l tb x hx hl 1 (by decide) es ht;have aw:=λq tg zs ai hzs st=>Qe gl l tb x hx q tg zs ai hzs st;obtain⟨t,xs,t',v,rfl,aC,bo,am,bj,bi⟩:=hx;refine ICall.intro (c:=cf prog gl [2,3] [(19,[0,1,2,3,4,5,7,8,6,9,10])] [1]) func128 rfl (by show _<=118;simp) (by kernel_rfl) ?_;simp only[go_sem,zE,fits,brI];refine λb2=>eB λD b3=>eB λaf=>?_;have E:b2≠b3:=λh=>by rw[<- h,cT] at af;cases af
 have W:st b3=none:=by rw[de E.symm] at af;exact af
 have aE:tb≠b2:=λh=>by rw[<- h,hb] at D;cases D
 have aD:tb≠b3:=λh=>by rw[<- h,hb] at W;cases W
 rw[am.len];intro _;obtain⟨S,hS⟩:∃S,S=(st.put b2 (some (.box ndZ))).put b3 (some (.box [false])):=⟨_,rfl⟩
 have g2:S b2=some (.box ndZ):=by rw[hS,de E,cT]
 have g3:S b3=some (.box [false]):=by rw[hS,cT]
 have gt:S tb=some (.map .sg es):=by rw[hS,de aD,de aE];exact hb
 have ag:∀o o',subSt st ((S.put b2 o).put b3 o'):=λo o' c y hc=>by
  have c2:c≠b2:=λh=>by rw[h,D] at hc;cases hc
  have c3:c≠b3:=λh=>by rw[h,W] at hc;cases hc
  rw[de c3,de c2,hS,de c3,de c2];exact hc
 refine cV l.length (λk fr st' ds=>(l.take k).find? (lr l)=none/\fr 1=.iv (.cptr (.cptr (.agg (brI tb t xs t' v))))/\fr 2=(ptrI b2)/\fr 3=(ptrI b3)/\fr 16=.iv (.sl t xs)/\fr 17=l.length/\fr 18=.iv (.raw (.int .i64 k))/\st'=S/\ds=[]) ?_ ?_ ?_
 ·simp only[go_sem,zE];exact⟨rfl,rfl,rfl,rfl,rfl,hS.symm⟩
 ·rintro k fr O _ aj ⟨U,f1,f2,f3,f16,f17,f18,rfl,rfl⟩;obtain⟨a,ha⟩:=dd aj;obtain⟨z,aI,hz⟩:=am.get ha;have aN:=λst=>aM a z hz st;obtain⟨o5,n5,t5,x5,t6,x6,rfl,h1⟩:=hz;simp only[go_sem,zE,zB,zA,zL,f1,f16,f17,f18,lt_i aj,dc aC,iNn,aI,fits];refine (aN _).q ?_;cases ar:lr l a
  ·simp only[go_sem,zE,f1,f2,f3,f16,f17,f18,df aj (by omega)];exact GX ha U ar
  ·have hm:pt l=some (a,true):=by
    rw[pt,GY ha U ar]
   simp only[go_sem,zE,zA,zL,f2,f3,fits,ptrI,g2,g3,de E,de E.symm,cT];rw[b_ (by decide)];rw[hm] at h;cases h;exact dZ (ag _ _) ⟨_,rfl,⟨_,_,_,_,_,_,rfl,h1⟩,rfl⟩
 ·rintro fr O _ ⟨U,f1,f2,f3,f16,f17,f18,rfl,rfl⟩;rw[lTl] at U;simp only[go_sem,zE,zA,f1,f17,f18,dD (nLi _)];refine (aA _).q ?_;simp only[go_sem,reduceCtorEq,useI];obtain⟨p,hp⟩:∃p:Mk->Bool,p=λm=>!allT l (((dY m 0)[0]?).getD []):=⟨_,rfl⟩
  have ae:(gH l 1).find? p=some m/\c=false:=by
   rw[pt,U,<- hp] at h;cases hq:(gH l 1).find? p with
   | none=>rw[hq] at h;cases h
   | some m'=>rw[hq] at h;cases h;exact⟨rfl,rfl⟩
  obtain⟨ae,rfl⟩:=ae;refine RangeC.intro (mkX (gH l 1)) (gH l 1).length (λk s=>s=O/\((gH l 1).take k).find? p=none) (λe s=>e=.ret/\∃nd,IsN0 m false (.agg nd)/\s=(O.put b2 (some (.box nd))).put b3 (some (.box [true]))) rfl ?_ ?_ ?_ ?_ ?_ ?_
  ·rintro k a ⟨_,_,_,_,rfl⟩;rfl
  ·exact⟨rfl,rfl⟩
  ·rintro k _ ab ⟨a,y,ak,hy,rfl⟩ ⟨rfl,A⟩;have av:=lMg ak;rw[gH,jq] at av;obtain⟨aO,aR⟩:=av;have aY:(eJ a).1=1:=by simpa using aR
   have aH:=λst hb=>tO gl a y hy (hg a aO) 0 st tb es hb ht;have bh:=hy;obtain⟨o5,n5,t5,x5,t6,x6,rfl,h1⟩:=hy;simp only[go_sem,zE,zB,zA,zL,f1,fits,brI];refine (aH _ gt).mono ?_;rintro _ ab ⟨tg,qs,rfl,ai,aF,rfl⟩;obtain⟨q0,an⟩:=dd (Qh (w:=0) (show (eJ a).1≠0 by omega));obtain⟨tq,zq,aJ,aB,az⟩:=aF.get an;have ac:p a=!allT l q0:=by rw[hp];simp only[an,fI]
   simp only[go_sem,zE,zA,dc ai,Int.le_refl,Int.toNat_zero,aJ,fits];refine (aw q0 tq zq aB az _).q ?_;cases D:allT l q0
   ·rw[D] at ac;have aG:a=m:=eK ((GY ak A ac).symm.trans ae);subst aG;simp only[go_sem,zE,zA,zL,f2,f3,fits,ptrI,g2,g3,de E.symm];rw[b_ (by decide)];exact⟨_,⟨_,_,_,_,_,_,rfl,h1⟩,rfl⟩
   ·rw[D] at ac;simp only[go_sem];exact GX ak A ac
  ·exact λy I' S' st aL hI hy h0=>aK y I' S' st aL (λk stu h=>by obtain⟨s0,h1,rfl,_⟩:=hI k stu h;exact⟨_,h1,gt⟩) hy h0
  ·rintro ab r ⟨_,A⟩;rw[lTl,ae] at A;cases A
  ·rintro e ab r ⟨rfl,nd,aq,rfl⟩;have ao:=aq;obtain⟨o1,n1,t1,y1,t2,y2,he,_⟩:=aq;obtain rfl:=IV.agg.inj he;simp only[go_sem,zE,zA,zL,f2,f3,ptrI,de E,cT,resC];exact dZ (ag _ _) ⟨_,rfl,ao,rfl⟩
noncomputable def hasL (l:List Fm)(f:Fm):Bool:=l.any λg=>decide (gX f g=0)
def sr (l:List Fm)(t:Tag)(O:List IV)(ht:okEs t 4)(A:IsFms l O)(f:Fm)(y:IV)(hy:IsFm f y)(st:ISt):ICall prog gl 104 [.sl t O,y] st (λr st'=>r=(hasL l f:Bool)/\st'=st):=by
 have W:=hy;obtain⟨o7,n7,t7,x7,t8,x8,rfl⟩:=hy.agg;refine iI func104 ?_;simp only[go_sem,reduceCtorEq,A.len];intro _;refine cV l.length (λk fr st' ds=>hasL (l.take k) f=false/\fr 3=.box [.raw (.int .u8 o7),n7,.sl t7 x7,.sl t8 x8]/\fr 7=.iv (.sl t O)/\fr 8=l.length/\fr 9=.iv (.raw (.int .i64 k))/\st'=st/\ds=[]) ?_ ?_ ?_
 ·simp only[go_sem,zE];exact⟨rfl,rfl⟩
 ·rintro k fr U _ D ⟨E,f3,f7,f8,f9,rfl,rfl⟩;obtain⟨a,ha⟩:=dd D;obtain⟨z,aa,hz⟩:=A.get ha;have hs:=λst=>yj gl f a _ _ W hz st;obtain⟨o5,n5,t5,x5,t6,x6,rfl⟩:=hz.agg;simp only[go_sem,zE,zB,zA,zL,f3,f7,f8,f9,lt_i D,dc ht,iNn,aa,fits];refine (hs _).q ?_;cases hc:decide (gX f a=0)
  ·simp only[go_sem,zE,f3,f7,f8,f9,df D (by have:=A.len;omega)];unfold hasL at E ⊢;rw[dK ha,List.any_append,E];simp[hc]
  ·simp only[go_sem];exact cO ⟨by rw[show hasL l f=true from jm.2 ⟨_,lMg ha,hc⟩],rfl⟩
 ·rintro fr U _ ⟨E,f3,f7,f8,f9,rfl,rfl⟩;rw[lTl] at E;simp only[go_sem,f8,f9,dD (nLi _)];exact cO ⟨by rw[E],rfl⟩
noncomputable def kv (a b:List Fm):Bool:=a.any λf=>hasL b f
def GZ (l:List Fm)(t:Tag)(O:List IV)(ht:okEs t 4)(A:IsFms l O)(b:List Fm)(t2:Tag)(ys:List IV)(W:okEs t2 4)(hys:IsFms b ys)(st:ISt):ICall prog gl 106 [.sl t O,.sl t2 ys] st (λr st'=>r=(kv l b:Bool)/\st'=st):=by
 refine iI func106 ?_;simp only[go_sem,reduceCtorEq,A.len];intro _;refine cV l.length (λk fr st' ds=>kv (l.take k) b=false/\fr 1=.iv (.sl t2 ys)/\fr 7=.iv (.sl t O)/\fr 8=l.length/\fr 9=.iv (.raw (.int .i64 k))/\st'=st/\ds=[]) ?_ ?_ ?_
 ·simp only[go_sem,zE];exact⟨rfl,rfl⟩
 ·rintro k fr U _ D ⟨E,f1,f7,f8,f9,rfl,rfl⟩;obtain⟨a,ha⟩:=dd D;obtain⟨z,aa,hz⟩:=A.get ha;have hs:=λst=>sr gl b t2 ys W hys a _ hz st;obtain⟨o5,n5,t5,x5,t6,x6,rfl⟩:=hz.agg;simp only[go_sem,zE,zB,zA,zL,f1,f7,f8,f9,lt_i D,dc ht,iNn,aa,fits];refine (hs _).q ?_;cases hc:hasL b a
  ·simp only[go_sem,zE,f1,f7,f8,f9,df D (by have:=A.len;omega)];unfold kv at E ⊢;rw[dK ha,List.any_append,E];simp[hc]
  ·simp only[go_sem];exact cO ⟨by rw[show kv l b=true from jm.2 ⟨_,lMg ha,hc⟩],rfl⟩
 ·rintro fr U _ ⟨E,f1,f7,f8,f9,rfl,rfl⟩;rw[lTl] at E;simp only[go_sem,f8,f9,dD (nLi _)];exact cO ⟨by rw[E],rfl⟩
noncomputable def nA (need r:List Fm)(f:Fm):List Fm:=if hasL need f&&!hasL r f then r++[f] else r
noncomputable def fZ (l need:List Fm):List Fm:=l.foldl (nA need) []
def su {need:List Fm}:∀ {l r:List Fm},dt (l.foldl (nA need) r)<=dt r+dt l/\(l.foldl (nA need) r).length<=r.length+l.length
 | [],r=>by simp[dt]
 | a::l,r=>by
  obtain⟨h,A⟩:=su (need:=need) (l:=l) (r:=nA need r a);have h2:dt (nA need r a)<=dt r+a.size/\(nA need r a).length<=r.length+1:=by
   unfold nA;split
   ·rw[sW];simp[dt]
   ·omega
  simp only[dt,jS,eG];omega
def uI (l:List Fm)(t:Tag)(xs:List IV)(ht:okEs t 4)(ab:IsFms l xs)(b:List Fm)(t2:Tag)(ys:List IV)(ai:okEs t2 4)(hys:IsFms b ys)(hl:dt l<=1000000)(st:ISt) :
  ICall prog gl 107 [.sl t xs,.sl t2 ys] st (λr st'=>∃E zs,r=.sl E zs/\okEs E 4/\IsFms (fZ l b) zs/\st'=st):=by
 have hll:=h_ l;refine iI func107 ?_;simp only[go_sem,reduceCtorEq,ab.len];intro _;refine cV l.length (λk fr st' ds=>(∃E zs,fr 5=.iv (.sl E zs)/\IsFms (fZ (l.take k) b) zs/\own st' E (fZ (l.take k) b).length 4 st/\subSt st st')/\fr 1=.iv (.sl t2 ys)/\fr 8=.iv (.sl t xs)/\fr 9=l.length/\fr 10=.iv (.raw (.int .i64 k))/\ds=[]) ?_ ?_ ?_
 ·simp only[go_sem,zE];exact⟨⟨_,_,rfl,rfl,.inl ⟨rfl,rfl⟩,subSt.refl _⟩,rfl⟩
 ·rintro k fr U _ O ⟨⟨E,zs,f5,hzs,A,D⟩,f1,f8,f9,f10,rfl⟩;obtain⟨a,ha⟩:=dd O;obtain⟨y,an,hy⟩:=ab.get ha;have h1:=λst=>sr gl b t2 ys ai hys a y hy st;have h2:=λst=>sr gl _ E zs A.es hzs a y hy st;have am:=(su (need:=b) (l:=l.take k) (r:=[])).2;rw[dO,fN] at am;have ao:(fZ (l.take k) b).length<=k:=by unfold fZ;omega
  have aj:fZ (l.take (k+1)) b=nA b (fZ (l.take k) b) a:=by rw[fZ,dK ha,List.foldl_append];rfl
  have ah:=hy;obtain⟨o5,n5,t5,x5,t6,x6,rfl⟩:=hy.agg;rw[aj];unfold nA;simp only[go_sem,zE,zB,zA,zL,f1,f8,f9,f10,lt_i O,dc ht,iNn,an,fits];refine (h1 _).q ?_;cases av:hasL b a
  ·simp only[go_sem,zE,reduceCtorEq,f1,f5,f8,f9,f10,df O (by omega)];exact⟨E,zs,rfl,hzs,A,D⟩
  ·simp only[go_sem,zE,zA,zL,f5];refine (h2 _).q ?_;cases au:hasL (fZ (l.take k) b) a
   ·simp only[go_sem,zE,zA,zM,zL,f5,fits,dP];refine lq A hzs.len D rfl (by simp[fits,IV.one]) (by simp only;omega) (by omega) λag st5 aa W _=>?_;simp only[go_sem,zE,f1,f8,f9,f10,df O (by omega)];exact⟨ag,_,rfl,hzs.append ⟨_,_,rfl,ah,rfl⟩,by rw[lLa];exact aa,W⟩
   ·simp only[go_sem,zE,reduceCtorEq,f1,f5,f8,f9,f10,df O (by omega)];exact⟨E,zs,rfl,hzs,A,D⟩
 ·rintro fr U _ ⟨⟨E,zs,f5,hzs,A,D⟩,f1,f8,f9,f10,rfl⟩;rw[lTl] at hzs A;have ak:=(su (need:=b) (l:=l) (r:=[])).1;simp only[dt] at ak;simp only[go_sem,zE,zA,f5,f9,f10,dD (nLi _)];refine (yO gl _ E zs A.es hzs (by unfold fZ;omega) _).mono ?_;rintro _ U ⟨t3,ae,rfl,e3,_,i3,rfl⟩;simp only[go_sem];exact dZ D ⟨t3,ae,rfl,e3,i3.1,rfl⟩
structure UP where
 d:Nat
 b:Nat
 k:Nat
 n:Nat
 hx:IV
 y:IV
 zs:IV
 S0:ISt
 S1:ISt
 B:IV->List IV
 ok:Nat->Nat->List IV->Prop
 P:Fr->Prop
namespace UP
variable (u:UP)
def new (g cap:Nat):IV:=.raw (.slice (some ⟨g,0,none⟩) (u.n+1) cap)
def sl (g cap:Nat):List (Option (Nat×IV)):=[some (u.d,.raw (.pointer (some ⟨u.b,u.k,none⟩))),some (u.d+1,u.hx),some (u.d+2,u.y),some (u.d+3,u.n),some (u.d+4,u.zs),some (u.d+5,u.new g cap),some (u.d+6,.raw (.pointer (some ⟨g,u.n*4,none⟩))),none,
 some (u.d+7,.raw (.pointer (some ⟨u.b,u.k,none⟩))),none]
def st (D A:Bool)(g cap:Nat)(cs:List IV):ISt:=(if A=true then u.S1.put u.b (some (.box (u.B (u.new g cap)))) else u.S1).put g (some (.box (if D=true then eV cs (u.n*4) u.y.cells else cs)))
def C (A:Array Bool):Prop:=(A.getD 5 false=true->∀i,i<5->A.getD i false=true)/\∀i,5<=i->A.getD i false=true->A.getD 5 false=true
def T (A:Array Bool)(s:ISt)(g cap:Nat)(cs:List IV):Prop:=(A.getD 5 false=false/\s=u.S0)\/(A.getD 5 false=true/\u.ok g cap cs/\s=u.st (A.getD 7 false) (A.getD 9 false) g cap cs)
def J (A:Array Bool):Kt:=λad fr s ds=>(∀s,ad s=none)/\ds=[]/\u.P fr/\C A/\∃g cap cs,SlotsOk (u.sl g cap) A fr/\u.T A s g cap cs
variable {u}
def zy {g cap i d:Nat}{z:IV}(h:(u.sl g cap)[i]?=some (some (d,z))):i<10/\u.d<=d/\d<u.d+8:=by
 have A:i<10:=(lGs h).1;refine⟨A,?_⟩;rcases (show i=0\/i=1\/i=2\/i=3\/i=4\/i=5\/i=6\/i=7\/i=8\/i=9 by omega) with rfl|rfl|rfl|rfl|rfl|rfl|rfl|rfl|rfl|rfl
 all_goals first|(cases h;done)|(cases h;omega)
def nd (d:Nat)(g cap:Nat)(h:u.d=d)(A:ndO [some d,some (d+1),some (d+2),some (d+3),some (d+4),some (d+5),some (d+6),none,some (d+7),none]=true):ndO ((u.sl g cap).map (·.map (·.1)))=true:=by
 subst h;exact A
def C.set {A:Array Bool}{i:Nat}(U:A.size=10)(W:i<10)(h:C A)(h1:5<i->A.getD 5 false=true)(h2:i=5->∀j,j<5->A.getD j false=true):C (A.setIfInBounds i true):=by
 refine⟨λO j D=>?_,λj D E=>?_⟩
 ·rw[fu (by omega)] at O ⊢;split
  ·rfl
  ·split at O
   ·exact h2 ‹_› j D
   ·exact h.1 O j D
 ·rw[fu (by omega)] at E ⊢;split
  ·rfl
  ·split at E
   ·exact h1 (by omega)
   ·exact h.2 j D E
def pure {A:Array Bool}{ad:Ad}{fr:Fr}{s:ISt}{g cap:Nat}{cs:List IV}(hn:∀g cap,ndO ((u.sl g cap).map (·.map (·.1)))=true)(hP:∀fr d z,u.d<=d->d<u.d+8->u.P fr->u.P (fr.put d z))(hz:A.size=10)(U:∀s,ad s=none)(hF:u.P fr)(hC:C A)(O:SlotsOk (u.sl g cap) A fr)(W:u.T A s g cap cs)
  {i d:Nat} {z:IV} (D:i≠5/\i≠7/\i≠9) (h5:5<i->A.getD 5 false=true) (E:(u.sl g cap)[i]?=some (some (d,z))):u.J (A.setIfInBounds i true) (ad.put d none) (fr.put d (.iv z)) s []:=by
 have hi:=(zy E).1;refine⟨ou U d,rfl,hP _ _ _ (zy E).2.1 (zy E).2.2 hF,hC.set hz hi h5 (λh=>absurd h D.1),g,cap,cs,O.step rfl (hn g cap) (by omega) E (λ_ _ _=>rfl),?_⟩;unfold T at W ⊢;rw[fu (by omega),a_ D.1,fu (by omega),a_ D.2.1,fu (by omega),a_ D.2.2];exact W
def Qj {g cap g' cap' j:Nat}(E:j≠5)(D:j≠6):(u.sl g' cap')[j]?=(u.sl g cap)[j]?:=by
 by_cases A:j<10
 ·rcases (show j=0\/j=1\/j=2\/j=3\/j=4\/j=7\/j=8\/j=9 by omega) with rfl|rfl|rfl|rfl|rfl|rfl|rfl|rfl<;>rfl
 ·rw[lF (by show 10<=j;omega),lF (by show 10<=j;omega)]
def app {A:Array Bool}{ad:Ad}{fr:Fr}{g cap:Nat}(hn:∀g cap,ndO ((u.sl g cap).map (·.map (·.1)))=true)(hP:∀fr d z,u.d<=d->d<u.d+8->u.P fr->u.P (fr.put d z))(hz:A.size=10)(aa:∀s,ad s=none)(hF:u.P fr)(hC:C A)(O:SlotsOk (u.sl g cap) A fr)
  (E:∀j,j<5->A.getD j false=true) (D:A.getD 5 false=false) {g' cap':Nat} {cs':List IV} (U:u.ok g' cap' cs'):u.J (A.setIfInBounds 5 true) (ad.put (u.d+5) none) (fr.put (u.d+5) (u.new g' cap')) (u.S1.put g' (some (.box cs'))) []:=by
 have off:∀j,5<=j->A.getD j false=false:=λj W=>by
  cases hq:A.getD j false
  ·rfl
  ·rw[hC.2 j W hq] at D;cases D
 refine⟨ou aa _,rfl,hP _ _ _ (by omega) (by omega) hF,hC.set hz (by decide) (λh=>absurd h (by decide)) (λ_=>E),g',cap',cs',O.step rfl (hn g' cap') (by omega) rfl (λj W hl=>Qj W λh6=>by rw[h6,off 6 (by decide)] at hl;cases hl),.inr ⟨by rw[fu (by omega),b_ rfl],U,?_⟩⟩;rw[fu (by omega),a_ (by decide),off 7 (by decide),fu (by omega),a_ (by decide),off 9 (by decide)];rfl
def T.st5 {A:Array Bool}{s:ISt}{g cap:Nat}{cs:List IV}(D:A.getD 5 false=true)(h:u.T A s g cap cs):u.ok g cap cs/\s=u.st (A.getD 7 false) (A.getD 9 false) g cap cs:=by
 rcases h with⟨h,_⟩|⟨_,h⟩
 ·rw[h] at D;cases D
 ·exact h
def cell {A:Array Bool}{ad:Ad}{fr:Fr}{s:ISt}{g cap:Nat}{cs:List IV}(hz:A.size=10)(U:∀s,ad s=none)(hF:u.P fr)(hC:C A)(D:SlotsOk (u.sl g cap) A fr)(hT:u.T A s g cap cs)
  (W:A.getD 5 false=true) (O:A.getD 7 false=false):s g=some (.box cs)/\u.J (A.setIfInBounds 7 true) ad fr (s.put g (some (.box (eV cs (u.n*4) u.y.cells)))) []:=by
 obtain⟨E,rfl⟩:=hT.st5 W;refine⟨by rw[O];exact cT ..,U,rfl,hF,hC.set hz (by decide) (λ_=>W) (λh=>absurd h (by decide)),g,cap,cs,D.skip (.inl rfl),.inr ⟨by rw[fu (by omega),a_ (by decide)];exact W,E,?_⟩⟩;rw[fu (by omega),b_ rfl,fu (by omega),a_ (by decide)];unfold st;rw[eZ];rfl
def header {A:Array Bool}{ad:Ad}{fr:Fr}{s:ISt}{g cap:Nat}{cs:List IV}(W:∀g cap cs,u.ok g cap cs->g≠u.b)(hz:A.size=10)(aa:∀s,ad s=none)(hF:u.P fr)(hC:C A)(U:SlotsOk (u.sl g cap) A fr)(hT:u.T A s g cap cs)
  (h5:A.getD 5 false=true) (O:A.getD 9 false=false):s u.b=u.S1 u.b/\u.J (A.setIfInBounds 9 true) ad fr (s.put u.b (some (.box (u.B (u.new g cap))))) []:=by
 obtain⟨D,rfl⟩:=hT.st5 h5;have E:=W _ _ _ D;refine⟨?_,aa,rfl,hF,hC.set hz (by decide) (λ_=>h5) (λh=>absurd h (by decide)),g,cap,cs,U.skip (.inl rfl),.inr ⟨by rw[fu (by omega),a_ (by decide)];exact h5,D,?_⟩⟩
 ·rw[O];exact de E.symm
 ·rw[fu (by omega),a_ (by decide),fu (by omega),b_ rfl,O];unfold st;rw[a_ (by decide),b_ rfl,uu E]
end UP
def zD {ops:Array Oper}{A:Array Bool}(h:((List.range ops.size).all λi=>(opAt ops i).after.toList.all λe=>!Region.binds .any e || decide (e.on<i))=true)(hz:A.size=ops.size)(hr:Region.ready .any ops A=[]):∀i,i<ops.size->A.getD i false=true:=by
 intro i
 induction i using Nat.strongRecOn with
 | _ i W =>
  intro D;refine fL λhc=>?_;have h4:A.getD i true=false:=by
   rw[gx,jj (by omega)] at hc ⊢;simpa using hc
  have:i∈Region.ready .any ops A:=fb.2 ⟨h4,_,iC D,λe E hb=>by
   have U:=ed.1 (ed.1 h i (gy.2 D)) e (by simpa using E);rw[hb] at U;have O:e.on<i:=by simpa using U
   exact W e.on O (js O D)⟩
  rw[hr] at this;cases this
def NeedO (s0 st:ISt)(b D A:Nat)(L R:List Fm):Prop:=∃W U O E,st b=some (.box [W,U])/\SlO s0 st 4 L.length (O.flatMap IV.cells) D W/\IsFms L O/\SlO s0 st 4 R.length (E.flatMap IV.cells) A U/\IsFms R E /\
 (L≠[]->D≠b/\(R≠[]->D≠A))/\(R≠[]->A≠b)/\∀c,c≠b->(L≠[]->c≠D)->(R≠[]->c≠A)->st c=s0 c
def SlO.mono {s0 st st':ISt}{s n g:Nat}{cells:List IV}{x:IV}(h:SlO s0 st s n cells g x)(A:0<n->st' g=st g):SlO s0 st' s n cells g x:=by
 rcases h with h|⟨h1,cap,cs,h2,E,D⟩
 ·exact .inl h
 ·exact .inr ⟨h1,cap,cs,h2,by rw[A h1];exact E,D⟩
def more {s0 A S1:ISt}{b U D g cap:Nat}{Lk R:List Fm}{f:Fm}{zl an cs Bx Bo:List IV}{xl xr y:IV}(ar:SlO s0 A 4 Lk.length (zl.flatMap IV.cells) U xl)(ao:IsFms Lk zl)(af:SlO s0 A 4 R.length an D xr)(ai:Lk≠[]->U≠b/\(R≠[]->U≠D))(ay:R≠[]->D≠b)
  (ah:∀c,c≠b->(Lk≠[]->c≠U)->(R≠[]->c≠D)->A c=s0 c) (am:S1=if Lk=[] then A else A.put U none) (ak:S1 b=some (.box Bo)) (hg:S1 g=none) (hc:Lk.length+1<=cap) (aH:cap*4<=cs.length) (aq:cs.take (Lk.length*4)=zl.flatMap IV.cells) (hy:IsFm f y) (ae:y.cells.length=4) {s':ISt}
  (O:s'=(S1.put b (some (.box Bx))).put g (some (.box (eV cs (Lk.length*4) y.cells)))) :
  g≠b/\(R≠[]->g≠D)/\s' b=some (.box Bx)/\SlO s0 s' 4 (Lk++[f]).length ((zl++[y]).flatMap IV.cells) g (.raw (.slice (some ⟨g,0,none⟩) (Lk.length+1) cap))/\IsFms (Lk++[f]) (zl++[y])/\SlO s0 s' 4 R.length an D xr/\∀c,c≠b->c≠g->(R≠[]->c≠D)->s' c=s0 c:=by
 have aa:g≠b:=λh=>by rw[h,ak] at hg;cases hg
 have pos:∀l:List Fm,0<l.length↔l≠[]:=λl=>by cases l<;>simp
 have ax:R≠[]->A D≠none:=λh=>by
  rcases af with⟨h0,_⟩|⟨_,_,_,_,h1,_⟩
  ·exact absurd (fX.1 h0) h
  ·rw[h1];simp
 have aA:Lk≠[]->s0 U=none:=λh=>by
  rcases ar with⟨h0,_⟩|⟨_,_,_,_,_,_,_,_,h1⟩
  ·exact absurd (fX.1 h0) h
  ·exact h1
 have E:∀c,(Lk≠[]->c≠U)->S1 c=A c:=λc hc=>by
  rw[am];split
  ·rfl
  ·exact de (hc ‹_›)
 have ab:R≠[]->g≠D:=λh hq=>by
  rw[hq,E D λW=>((ai W).2 h).symm] at hg;exact ax h hg
 have ag:∀c,c≠b->(R≠[]->c≠D)->S1 c=s0 c:=λc av aw=>by
  by_cases W:Lk≠[]/\c=U
  ·rw[am,a_ W.1,W.2,cT,aA W.1]
  ·have:Lk≠[]->c≠U:=λh1 h2=>W ⟨h1,h2⟩;rw[E c this];exact ah c av this aw
 have au:s0 g=none:=by rw[<- ag g aa ab];exact hg
 have aG:Lk.length*4+4<=cs.length:=by omega
 refine⟨aa,ab,by rw[O,de aa.symm,cT],.inr ⟨by simp,cap,eV cs (Lk.length*4) y.cells,by rw[lLa];rfl,by rw[O,cT],by simpa using hc,?_,?_,au⟩,ao.append ⟨_,_,rfl,hy,rfl⟩,af.mono λh=>?_,λc h1 h2 h3=>?_⟩
 ·simp only[eV,lLa,dO,fp,ae];omega
 ·have h6:(cs.take (Lk.length*4)++y.cells).length=(Lk++[f]).length*4:=by
   rw[lLa,dO,ae,kF (by omega),lLa,ek];rfl
  unfold eV;rw[gP (by omega),gA (by omega),aq,iu,lE]
 ·have hR:=(pos R).1 h;rw[O,de (ab hR).symm,de (ay hR),E D λW=>((ai W).2 hR).symm]
 ·rw[O,de h2,de h1];exact ag c h1 h3
noncomputable def fO (l w:List Fm):List Fm:=l.filter λf=>!hasL w f
def uJ (l m w:List Fm):fO (l++m) w=fO l w++fO m w:=by simp[fO]
def G1 (s w:Sq)(x y:IV)(hx:IsSq s x)(hy:IsSq w y)(s0 st:ISt)(b gL gR:Nat)(L R:List Fm)(h:NeedO s0 st b gL gR L R)(hl:L.length+R.length+s.l.length+s.r.length<=1000000) :
  ICall prog gl 103 [x,y,ptrI b] st (λr st'=>r=.tup []/\∃gL gR,NeedO s0 st' b gL gR (L++fO s.l w.l) (R++fO s.r w.r)):=by
 obtain⟨t1,x1,t2,x2,rfl,e1,i1,e2,i2⟩:=hx;obtain⟨t3,x3,t4,x4,rfl,e3,i3,e4,i4⟩:=hy;unfold ptrI;refine ICall.intro (c:=cf prog gl [26,47,22,43] [(5,[]),(11,[])]) func103 rfl (by show _<=51;simp) (by kernel_rfl) ?_;simp only[go_sem,zE,i1.len];intro _;refine cV s.l.length (λk fr st' ds=>(∃gL,NeedO s0 st' b gL gR (L++fO (s.l.take k) w.l) R)/\fr 2=.iv (ptrI b)/\fr 3=.box [.sl t1 x1,.sl t2 x2]/\fr 4=.box [.sl t3 x3,.sl t4 x4]/\fr 10=.iv (.sl t1 x1)/\fr 11=.iv (.raw (.int .i64 s.l.length))/\fr 12=.iv (.raw (.int .i64 k))/\ds=[]) ?_ ?_ ?_
 ·simp only[go_sem,zE];exact⟨⟨gL,by simpa[fO] using h⟩,rfl,rfl⟩
 ·rintro k fr ae _ ar ⟨⟨gL,hN⟩,f2,f3,f4,f10,f11,f12,rfl⟩;obtain⟨a,ha⟩:=dd ar;obtain⟨z,ba,hz⟩:=i1.get ha;have hh:=λst=>sr gl w.l t3 x3 e3 i3 a z hz st;have aX:=hz;obtain⟨o5,n5,t5,x5,t6,x6,rfl⟩:=hz.agg;simp only[go_sem,zE,zB,zA,zL,f4,f10,f11,f12,lt_i ar,dc e1,iNn,ba,fits];refine (hh _).q ?_;cases hb:hasL w.l a
  ·simp only[go_sem];rw[nL];obtain⟨xl,xr,zl,zr,az,aI,aW,aH,aV,k1,k2,k3⟩:=hN;have b0:(L++fO (s.l.take k) w.l).length<=1000000:=by
    have:=iW (λf=>!hasL w.l f) (s.l.take k);rw[dO] at this;simp only[fO,lLa];omega
   generalize hL:L++fO (s.l.take k) w.l=Lk at *;have aZ:Lk.length≠0↔Lk≠[]:=by cases Lk<;>simp
   obtain⟨S1,ah⟩:∃S1:ISt,S1=if Lk=[] then ae else ae.put gL none:=⟨_,rfl⟩
   have ai:S1 b=some (.box [xl,xr]):=by
    rw[ah];split
    ·exact az
    ·rw[de ((k1 ‹_›).1).symm];exact az
   obtain⟨u,U⟩:∃u:UP,u=⟨21,b,0,Lk.length,xl,.agg [.raw (.int .u8 o5),.raw (.string n5),.sl t5 x5,.sl t6 x6],.sl ⟨true,.full,4⟩ [.agg [.raw (.int .u8 0),.raw (.string ⟨#[]⟩),.sl ⟨true,.nil,0⟩ [],.sl ⟨true,.nil,0⟩ []]],ae,S1,λv=>[v,xr],λg cap cs=>S1 g=none/\Lk.length+1<=cap/\cap*4<=cs.length/\cs.take (Lk.length*4)=zl.flatMap IV.cells,
     λfr=>fr 2=.iv (ptrI b)/\fr 3=.box [.sl t1 x1,.sl t2 x2]/\fr 4=.box [.sl t3 x3,.sl t4 x4]/\fr 6=.box [.raw (.int .u8 o5),.raw (.string n5),.sl t5 x5,.sl t6 x6]/\fr 10=.iv (.sl t1 x1)/\fr 11=.iv (.raw (.int .i64 s.l.length))/\fr 12=.iv (.raw (.int .i64 k))⟩:=⟨_,rfl⟩
   have hn:∀g cap,ndO ((u.sl g cap).map (·.map (·.1)))=true:=λg cap=>UP.nd 21 g cap (by rw[U]) rfl;have hP:∀fr d z,u.d<=d->d<u.d+8->u.P fr->u.P (fr.put d z):=by
    rw[U];intro fr d z h1 h2 h3;simp only at h1 h2 h3 ⊢;obtain⟨a1,a2,a3,a4,a5,a6,a7⟩:=h3;simp only[Fr.put_apply];refine⟨?_,?_,?_,?_,?_,?_,?_⟩<;>(rw[a_ (by omega)];assumption)
   have bb:∀g cap cs,u.ok g cap cs->g≠u.b:=λg cap cs h=>by
    rw[U] at h ⊢;intro hq;have h1:=h.1;rw[hq] at h1;rw[show S1 _=none from h1] at ai;cases ai
   refine mU u.J ?_ ?_ _ _ _ _ _ _ rfl ?_
   ·intro O ad fr ay ds hz hJ i hi;replace hz:O.size=10:=hz;obtain⟨h0,o,ho,A⟩:=fb.1 hi;have bO:i<10:=(gO.1 ho).1;have aj:O.getD i false=false:=by
     rw[gx,jj (by omega)] at h0 ⊢;exact h0
    obtain⟨E,rfl,hF,hC,g,cap,cs,D,hT⟩:=hJ;have W:=hF;have h5:i<5->O.getD 5 false=false:=λhi=>by
     cases hq:O.getD 5 false
     ·rfl
     ·rw[hC.1 hq i hi] at aj;cases aj
    rw[U] at hF;obtain⟨f2,f3,f4,f6,f10,f11,f12⟩:=hF;rcases (show i=0\/i=1\/i=2\/i=3\/i=4\/i=5\/i=6\/i=7\/i=8\/i=9 by omega) with rfl|rfl|rfl|rfl|rfl|rfl|rfl|rfl|rfl|rfl
    all_goals obtain rfl:=eK ho
    ·unfold ptrI at f2;simp only[go_sem,dT,E,f2];refine UP.pure hn hP hz E W hC D hT (by decide) (λh=>absurd h (by decide)) ?_;rw[U];rfl
    ·have d0:=D 0 (A ⟨0,.data⟩ (by simp) rfl) _ _ rfl;simp only[U] at d0;obtain rfl:ay=ae:=by
      rcases hT with⟨_,h⟩|⟨h,_⟩
      ·rw[h,U]
      ·rw[h5 (by decide)] at h;cases h
     simp only[go_sem,zE,dT,E,d0,az];refine UP.pure hn hP hz E W hC D hT (by decide) (λh=>absurd h (by decide)) ?_;rw[U];rfl
    ·simp only[go_sem,zA,zL,dT,E,f6];refine UP.pure hn hP hz E W hC D hT (by decide) (λh=>absurd h (by decide)) ?_;rw[U];rfl
    ·have d1:=D 1 (A ⟨1,.data⟩ (by simp) rfl) _ _ rfl;simp only[U] at d1;rcases aI with⟨an,aN,fz,ez,rfl⟩|⟨an,aT,aA,rfl,_⟩
     ·simp only[go_sem,dT,d1];refine UP.pure hn hP hz E W hC D hT (by decide) (λh=>absurd h (by decide)) ?_;rw[U];simp only[UP.sl,an];rfl
     ·simp only[go_sem,dT,d1];refine UP.pure hn hP hz E W hC D hT (by decide) (λh=>absurd h (by decide)) ?_;rw[U];rfl
    ·simp only[go_sem,zE,zA,zM,zL,dT,fits,dP,show allI nB [Value.int IntKind.u8 0,Value.string { data:=#[] },Value.slice none 0 0,Value.slice none 0 0]=some [.raw (.int .u8 0),.raw (.string ⟨#[]⟩),.sl ⟨true,.nil,0⟩ [],.sl ⟨true,.nil,0⟩ []] from rfl];refine UP.pure hn hP hz E W hC D hT (by decide) (λh=>absurd h (by decide)) ?_;rw[U];rfl
    ·have ac:∀j,j<5->O.getD j false=true:=λj hj=>by
      rcases (show j=0\/j=1\/j=2\/j=3\/j=4 by omega) with rfl|rfl|rfl|rfl|rfl
      all_goals exact A ⟨_,.phase⟩ (by simp) rfl
     obtain rfl:ay=ae:=by
      rcases hT with⟨_,h⟩|⟨h,_⟩
      ·rw[h,U]
      ·rw[aj] at h;cases h
     have ao:=λg' cap' cs' af=>UP.app hn hP hz E W hC D ac aj (g':=g') (cap':=cap') (cs':=cs') af;have d1:=D 1 (A ⟨1,.data⟩ (by simp) rfl) _ _ rfl;simp only[U] at d1;have d4:=D 4 (A ⟨4,.data⟩ (by simp) rfl) _ _ rfl;simp only[U] at d4;simp only[U,UP.new] at ao;rcases aI with⟨an,aN,fz,ez,rfl⟩|⟨an,aT,aA,rfl,bc,aL,aO,aG,bw⟩
     ·obtain rfl:=fX.1 an;rw[b_ rfl] at ah;subst ah;simp only[go_sem,zE,zA,zM,zL,dT,d1,d4,fits];refine λg' cap'=>eB λ⟨bd,bg⟩=>?_;rw[U];exact ao g' cap' _ ⟨bd,bg,by simp[IV.cells];omega,by rw[aN];rfl⟩
     ·simp only[go_sem,zE,zA,dT,d1,d4];rw[a_ (aZ.1 (by omega))] at ah;refine pG _ _ _ (cs:=aA) bc (by simp[fits,IV.one]) ⟨by simp only[iY];omega,by simp only[iY];omega⟩ ⟨aL,aO⟩ (by simp[IV.cells]) ?_;rintro g' cap' cs' aM bf be av;rw[U,<- ah];refine ao g' cap' cs' ⟨?_,bf,be,?_⟩
      ·rw[ah,ISt.put_apply];split
       ·rfl
       ·exact aM.resolve_left ‹_›
      ·simp only[iY] at av;have hm:Lk.length*4<=aA.length:=by omega
       rw[show cs'.take (Lk.length*4)=(cs'.take ((Lk.length+1)*4)).take (Lk.length*4) by rw[List.take_take,kF (by omega)],av,gP (by rw[dO];omega),List.take_take,Nat.min_self,aG]
    ·have ab:=A ⟨5,.data⟩ (by simp) rfl;have d5:=D 5 (A ⟨5,.data⟩ (by simp) rfl) _ _ rfl;simp only[U,UP.new] at d5;have d3:=D 3 (A ⟨3,.data⟩ (by simp) rfl) _ _ rfl;simp only[U] at d3;simp only[go_sem,dT,d3,d5,b_ (show 0<=(Lk.length:Int)/\Lk.length<Lk.length+1 from⟨by omega,by omega⟩)];refine UP.pure hn hP hz E W hC D hT (by decide) (λ_=>ab) ?_;rw[U];rfl
    ·have ab:=A ⟨5,.chain⟩ (by simp) rfl;have d6:=D 6 (A ⟨6,.data⟩ (by simp) rfl) _ _ rfl;simp only[U] at d6;have d2:=D 2 (A ⟨2,.data⟩ (by simp) rfl) _ _ rfl;simp only[U] at d2;obtain⟨q1,q2⟩:=UP.cell hz E W hC D hT ab aj;have af:=(hT.st5 ab).1;rw[U] at af;obtain⟨_,ax,aw,_⟩:=af;simp only[go_sem,zA,dT,E,d6,d2,q1,b_ (show Lk.length*4+4<=cs.length by omega)];simp only[U] at q2 ⊢;exact q2
    ·unfold ptrI at f2;have ab:=A ⟨5,.phase⟩ (by simp) rfl;simp only[go_sem,dT,E,f2];refine UP.pure hn hP hz E W hC D hT (by decide) (λ_=>ab) ?_;rw[U];rfl
    ·have ab:=A ⟨5,.data⟩ (by simp) rfl;have d8:=D 8 (A ⟨8,.data⟩ (by simp) rfl) _ _ rfl;simp only[U] at d8;have d5:=D 5 (A ⟨5,.data⟩ (by simp) rfl) _ _ rfl;simp only[U,UP.new] at d5;obtain⟨q1,q2⟩:=UP.header bb hz E W hC D hT ab aj;simp only[U,UP.new] at q1 q2;rw[ai] at q1;simp only[go_sem,zA,zL,dT,E,d8,d5,q1,ue];simp only[U] at ⊢;exact q2
   ·intro O ad fr ay ds hz hr hJ;have ac:=zD (by decide) hz hr;obtain⟨E,rfl,hF,hC,g,cap,cs,D,hT⟩:=hJ;obtain⟨af,am⟩:=hT.st5 (ac 5 (by decide));rw[ac 7 (by decide),ac 9 (by decide)] at am;rw[U] at hF af am;obtain⟨f2,f3,f4,f6,f10,f11,f12⟩:=hF;obtain⟨aK,ax,aw,aJ⟩:=af;obtain⟨r1,r2,r3,r4,r5,r6,r7⟩:=more aI aW aH k1 k2 k3 ah ai aK ax aw aJ aX rfl am;simp only[go_sem,zE,f2,f3,f4,f10,f11,f12,df ar (by omega)];refine⟨g,?_⟩;rw[dK ha,uJ,show fO [a] w.l=[a] by simp[fO,hb],<- fA,hL];exact⟨_,_,_,_,r3,r4,r5,r6,aV,λ_=>⟨r1,r2⟩,k2,λc h1 h2 h3=>r7 c h1 (h2 (by simp)) h3⟩
   ·rw[U];exact⟨λ_=>rfl,rfl,⟨f2,f3,f4,rfl,f10,f11,f12⟩,⟨(λh=>by rw[jh] at h;cases h),(λi hi h=>by rw[jh] at h;cases h)⟩,0,0,[],SlotsOk.start _ _ _,.inl ⟨rfl,rfl⟩⟩
  ·simp only[go_sem,zE,f2,f3,f4,f10,f11,f12,df ar (by omega)];refine⟨gL,?_⟩;rw[dK ha,uJ,show fO [a] w.l=[] by simp[fO,hb],fH];exact hN
 ·rintro fr ae _ ⟨⟨gL,hN⟩,f2,f3,f4,f10,f11,f12,rfl⟩;rw[lTl] at hN;simp only[go_sem,zE,f3,f11,f12,dD (nLi _),i2.len];intro _;refine cV s.r.length (λk fr st' ds=>(∃gR,NeedO s0 st' b gL gR (L++fO s.l w.l) (R++fO (s.r.take k) w.r))/\fr 2=.iv (ptrI b)/\fr 4=.box [.sl t3 x3,.sl t4 x4]/\fr 31=.iv (.sl t2 x2)/\fr 32=.iv (.raw (.int .i64 s.r.length))/\fr 33=.iv (.raw (.int .i64 k))/\ds=[]) ?_ ?_ ?_
  ·simp only[go_sem,zE,f2,f4];exact⟨⟨gR,by simpa[fO] using hN⟩,rfl⟩
  ·rintro k fr ae _ ar ⟨⟨gR,hN⟩,f2,f4,f31,f32,f33,rfl⟩;obtain⟨a,ha⟩:=dd ar;obtain⟨z,ba,hz⟩:=i2.get ha;have hh:=λst=>sr gl w.r t4 x4 e4 i4 a z hz st;have aX:=hz;obtain⟨o5,n5,t5,x5,t6,x6,rfl⟩:=hz.agg;simp only[go_sem,zE,zB,zA,zL,f4,f31,f32,f33,lt_i ar,dc e2,iNn,ba,fits];refine (hh _).q ?_;generalize L++fO s.l w.l=L' at *;cases hb:hasL w.r a
   ·simp only[go_sem,zE];rw[nL];obtain⟨xl,xr,zl,zr,az,aI,aW,aH,aV,k1,k2,k3⟩:=hN;have bY:(R++fO (s.r.take k) w.r).length<=1000000:=by
     have:=iW (λf=>!hasL w.r f) (s.r.take k);rw[dO] at this;simp only[fO,lLa];omega
    generalize hR:R++fO (s.r.take k) w.r=Rk at *;have aZ:Rk.length≠0↔Rk≠[]:=by cases Rk<;>simp
    obtain⟨S1,ah⟩:∃S1:ISt,S1=if Rk=[] then ae else ae.put gR none:=⟨_,rfl⟩
    have ai:S1 b=some (.box [xl,xr]):=by
     rw[ah];split
     ·exact az
     ·rw[de (k2 ‹_›).symm];exact az
    obtain⟨u,U⟩:∃u:UP,u=⟨42,b,1,Rk.length,xr,.agg [.raw (.int .u8 o5),.raw (.string n5),.sl t5 x5,.sl t6 x6],.sl ⟨true,.full,4⟩ [.agg [.raw (.int .u8 0),.raw (.string ⟨#[]⟩),.sl ⟨true,.nil,0⟩ [],.sl ⟨true,.nil,0⟩ []]],ae,S1,λv=>[xl,v],λg cap cs=>S1 g=none/\Rk.length+1<=cap/\cap*4<=cs.length/\cs.take (Rk.length*4)=zr.flatMap IV.cells,
      λfr=>fr 2=.iv (ptrI b)/\fr 4=.box [.sl t3 x3,.sl t4 x4]/\fr 8=.box [.raw (.int .u8 o5),.raw (.string n5),.sl t5 x5,.sl t6 x6]/\fr 31=.iv (.sl t2 x2)/\fr 32=.iv (.raw (.int .i64 s.r.length))/\fr 33=.iv (.raw (.int .i64 k))⟩:=⟨_,rfl⟩
    have hn:∀g cap,ndO ((u.sl g cap).map (·.map (·.1)))=true:=λg cap=>UP.nd 42 g cap (by rw[U]) rfl;have hP:∀fr d z,u.d<=d->d<u.d+8->u.P fr->u.P (fr.put d z):=by
     rw[U];intro fr d z h1 h2 h3;simp only at h1 h2 h3 ⊢;obtain⟨a1,a2,a3,a4,a5,a6⟩:=h3;simp only[Fr.put_apply];refine⟨?_,?_,?_,?_,?_,?_⟩<;>(rw[a_ (by omega)];assumption)
    have bb:∀g cap cs,u.ok g cap cs->g≠u.b:=λg cap cs h=>by
     rw[U] at h ⊢;intro hq;have h1:=h.1;rw[hq] at h1;rw[show S1 _=none from h1] at ai;cases ai
    refine mU u.J ?_ ?_ _ _ _ _ _ _ rfl ?_
    ·intro O ad fr ay ds hz hJ i hi;replace hz:O.size=10:=hz;obtain⟨h0,o,ho,A⟩:=fb.1 hi;have bO:i<10:=(gO.1 ho).1;have aj:O.getD i false=false:=by
      rw[gx,jj (by omega)] at h0 ⊢;exact h0
     obtain⟨E,rfl,hF,hC,g,cap,cs,D,hT⟩:=hJ;have W:=hF;have h5:i<5->O.getD 5 false=false:=λhi=>by
      cases hq:O.getD 5 false
      ·rfl
      ·rw[hC.1 hq i hi] at aj;cases aj
     rw[U] at hF;obtain⟨f2,f4,f8,f31,f32,f33⟩:=hF;rcases (show i=0\/i=1\/i=2\/i=3\/i=4\/i=5\/i=6\/i=7\/i=8\/i=9 by omega) with rfl|rfl|rfl|rfl|rfl|rfl|rfl|rfl|rfl|rfl
     all_goals obtain rfl:=eK ho
     ·unfold ptrI at f2;simp only[go_sem,dT,E,f2];refine UP.pure hn hP hz E W hC D hT (by decide) (λh=>absurd h (by decide)) ?_;rw[U];rfl
     ·have d0:=D 0 (A ⟨0,.data⟩ (by simp) rfl) _ _ rfl;simp only[U] at d0;obtain rfl:ay=ae:=by
       rcases hT with⟨_,h⟩|⟨h,_⟩
       ·rw[h,U]
       ·rw[h5 (by decide)] at h;cases h
      simp only[go_sem,zE,dT,E,d0,az];refine UP.pure hn hP hz E W hC D hT (by decide) (λh=>absurd h (by decide)) ?_;rw[U];rfl
     ·simp only[go_sem,zA,zL,dT,E,f8];refine UP.pure hn hP hz E W hC D hT (by decide) (λh=>absurd h (by decide)) ?_;rw[U];rfl
     ·have d1:=D 1 (A ⟨1,.data⟩ (by simp) rfl) _ _ rfl;simp only[U] at d1;rcases aH with⟨an,aN,fz,ez,rfl⟩|⟨an,aT,aA,rfl,_⟩
      ·simp only[go_sem,dT,d1];refine UP.pure hn hP hz E W hC D hT (by decide) (λh=>absurd h (by decide)) ?_;rw[U];simp only[UP.sl,an];rfl
      ·simp only[go_sem,dT,d1];refine UP.pure hn hP hz E W hC D hT (by decide) (λh=>absurd h (by decide)) ?_;rw[U];rfl
     ·simp only[go_sem,zE,zA,zM,zL,dT,fits,dP,show allI nB [Value.int IntKind.u8 0,Value.string { data:=#[] },Value.slice none 0 0,Value.slice none 0 0]=some [.raw (.int .u8 0),.raw (.string ⟨#[]⟩),.sl ⟨true,.nil,0⟩ [],.sl ⟨true,.nil,0⟩ []] from rfl];refine UP.pure hn hP hz E W hC D hT (by decide) (λh=>absurd h (by decide)) ?_;rw[U];rfl
     ·have ac:∀j,j<5->O.getD j false=true:=λj hj=>by
       rcases (show j=0\/j=1\/j=2\/j=3\/j=4 by omega) with rfl|rfl|rfl|rfl|rfl
       all_goals exact A ⟨_,.phase⟩ (by simp) rfl
      obtain rfl:ay=ae:=by
       rcases hT with⟨_,h⟩|⟨h,_⟩
       ·rw[h,U]
       ·rw[aj] at h;cases h
      have ao:=λg' cap' cs' af=>UP.app hn hP hz E W hC D ac aj (g':=g') (cap':=cap') (cs':=cs') af;have d1:=D 1 (A ⟨1,.data⟩ (by simp) rfl) _ _ rfl;simp only[U] at d1;have d4:=D 4 (A ⟨4,.data⟩ (by simp) rfl) _ _ rfl;simp only[U] at d4;simp only[U,UP.new] at ao;rcases aH with⟨an,aN,fz,ez,rfl⟩|⟨an,aT,aA,rfl,bc,aL,aO,aG,bw⟩
      ·obtain rfl:=fX.1 an;rw[b_ rfl] at ah;subst ah;simp only[go_sem,zE,zA,zM,zL,dT,d1,d4,fits];refine λg' cap'=>eB λ⟨bd,bg⟩=>?_;rw[U];exact ao g' cap' _ ⟨bd,bg,by simp[IV.cells];omega,by rw[aN];rfl⟩
      ·simp only[go_sem,zE,zA,dT,d1,d4];rw[a_ (aZ.1 (by omega))] at ah;refine pG _ _ _ (cs:=aA) bc (by simp[fits,IV.one]) ⟨by simp only[iY];omega,by simp only[iY];omega⟩ ⟨aL,aO⟩ (by simp[IV.cells]) ?_;rintro g' cap' cs' aM bf be av;rw[U,<- ah];refine ao g' cap' cs' ⟨?_,bf,be,?_⟩
       ·rw[ah,ISt.put_apply];split
        ·rfl
        ·exact aM.resolve_left ‹_›
       ·simp only[iY] at av;have hm:Rk.length*4<=aA.length:=by omega
        rw[show cs'.take (Rk.length*4)=(cs'.take ((Rk.length+1)*4)).take (Rk.length*4) by rw[List.take_take,kF (by omega)],av,gP (by rw[dO];omega),List.take_take,Nat.min_self,aG]
     ·have ab:=A ⟨5,.data⟩ (by simp) rfl;have d5:=D 5 (A ⟨5,.data⟩ (by simp) rfl) _ _ rfl;simp only[U,UP.new] at d5;have d3:=D 3 (A ⟨3,.data⟩ (by simp) rfl) _ _ rfl;simp only[U] at d3;simp only[go_sem,dT,d3,d5,b_ (show 0<=(Rk.length:Int)/\Rk.length<Rk.length+1 from⟨by omega,by omega⟩)];refine UP.pure hn hP hz E W hC D hT (by decide) (λ_=>ab) ?_;rw[U];rfl
     ·have ab:=A ⟨5,.chain⟩ (by simp) rfl;have d6:=D 6 (A ⟨6,.data⟩ (by simp) rfl) _ _ rfl;simp only[U] at d6;have d2:=D 2 (A ⟨2,.data⟩ (by simp) rfl) _ _ rfl;simp only[U] at d2;obtain⟨q1,q2⟩:=UP.cell hz E W hC D hT ab aj;have af:=(hT.st5 ab).1;rw[U] at af;obtain⟨_,ax,aw,_⟩:=af;simp only[go_sem,zA,dT,E,d6,d2,q1,b_ (show Rk.length*4+4<=cs.length by omega)];simp only[U] at q2 ⊢;exact q2
     ·unfold ptrI at f2;have ab:=A ⟨5,.phase⟩ (by simp) rfl;simp only[go_sem,dT,E,f2];refine UP.pure hn hP hz E W hC D hT (by decide) (λ_=>ab) ?_;rw[U];rfl
     ·have ab:=A ⟨5,.data⟩ (by simp) rfl;have d8:=D 8 (A ⟨8,.data⟩ (by simp) rfl) _ _ rfl;simp only[U] at d8;have d5:=D 5 (A ⟨5,.data⟩ (by simp) rfl) _ _ rfl;simp only[U,UP.new] at d5;obtain⟨q1,q2⟩:=UP.header bb hz E W hC D hT ab aj;simp only[U,UP.new] at q1 q2;rw[ai] at q1;simp only[go_sem,zA,zL,dT,E,d8,d5,q1,ue];simp only[U] at ⊢;exact q2
    ·intro O ad fr ay ds hz hr hJ;have ac:=zD (by decide) hz hr;obtain⟨E,rfl,hF,hC,g,cap,cs,D,hT⟩:=hJ;obtain⟨af,am⟩:=hT.st5 (ac 5 (by decide));rw[ac 7 (by decide),ac 9 (by decide)] at am;rw[U] at hF af am;obtain⟨f2,f4,f8,f31,f32,f33⟩:=hF;obtain⟨aK,ax,aw,aJ⟩:=af;obtain⟨r1,r2,r3,r4,r5,r6,r7⟩:=more aH aV aI (λh=>⟨k2 h,λhl=>((k1 hl).2 h).symm⟩) (λhl=>(k1 hl).1) (λc h1 h2 h3=>k3 c h1 h3 h2) ah ai aK ax aw aJ aX rfl am;simp only[go_sem,zE,f2,f4,f31,f32,f33,df ar (by omega)];refine⟨g,?_⟩;rw[dK ha,uJ,show fO [a] w.r=[a] by simp[fO,hb],<- fA,hR];exact⟨_,_,_,_,r3,r6,aW,r4,r5,λhl=>⟨(k1 hl).1,λ_=>(r2 hl).symm⟩,λ_=>r1,λc h1 h2 h3=>r7 c h1 (h3 (by simp)) h2⟩
    ·rw[U];exact⟨λ_=>rfl,rfl,⟨f2,f4,rfl,f31,f32,f33⟩,⟨(λh=>by rw[jh] at h;cases h),(λi hi h=>by rw[jh] at h;cases h)⟩,0,0,[],SlotsOk.start _ _ _,.inl ⟨rfl,rfl⟩⟩
   ·simp only[go_sem,zE,f2,f4,f31,f32,f33,df ar (by omega)];refine⟨gR,?_⟩;rw[dK ha,uJ,show fO [a] w.r=[] by simp[fO,hb],fH];exact hN
  ·rintro fr ae _ ⟨⟨gR,hN⟩,f2,f4,f31,f32,f33,rfl⟩;rw[lTl] at hN;simp only[go_sem,f32,f33,dD (nLi _)];exact cO ⟨rfl,gL,gR,hN⟩
