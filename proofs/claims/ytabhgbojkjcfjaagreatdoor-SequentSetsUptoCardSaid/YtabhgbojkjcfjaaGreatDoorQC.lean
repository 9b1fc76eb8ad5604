/- Walks: Over of lyceumkit: what is owned -/
import Derived.Test.YtabhgbojkjcfjaaGreatDoorQB
import Derived.Test.YtabhgbojkjcfjaaGreatDoorKV
import Derived.Lib.Bytealg
import Derived.Shelf.SlSortCmp.NoneTotal
set_option linter.all false
open Nat renaming reduceEqDiff → zE,reduceBEq → zB,reduceAdd → zA,reduceMul → zM,reduceLeDiff → zL
namespace Go.Proofs.Tryz
open Go Go.Iv
set_option maxRecDepth 4000
variable (gl:Nat->Option IV)
def Z0 (x:IV):Prop:=(∃f e,x=.sl ⟨f,.nil,e⟩ [])\/x=.raw (.slice none 0 0)
def hdK:Nat->IV->Prop
 | 3,v=>∃b,v=.raw (.bool b)
 | 4,v=>∃o,v=.raw (.int .u8 o)
 | 2,v=>∃q:Option Addr×Nat×Nat,v=.raw (.slice q.1 q.2.1 q.2.2)
 | _,_=>False
def nx:Nat->Nat->Option Nat
 | 3,2=>some 3
 | 4,2=>some 3
 | 4,3=>some 4
 | 2,0=>some 4
 | 2,1=>some 4
 | _,_=>none
theorem vZn {s j s':Nat}(h:nx s j=some s'):j<s:=by
 unfold nx at h;split at h<;>first|omega|cases h
theorem hdK.one {s s':Nat}{v:IV}(h:hdK s v)(h':hdK s' v):s=s':=by
 unfold hdK at h h';split at h<;>split at h'<;>first|rfl|exact h.elim|exact h'.elim|(obtain⟨_,rfl⟩:=h;obtain⟨_,h'⟩:=h';cases h')
theorem nx3 {j s':Nat}(h:nx 3 j=some s'):j=2/\s'=3:=by
 match j,h with
 | 2,h=>cases h;exact⟨rfl,rfl⟩
theorem nx4 {j s':Nat}(h:nx 4 j=some s'):j=2/\s'=3\/j=3/\s'=4:=by
 match j,h with
 | 2,h=>cases h;exact .inl ⟨rfl,rfl⟩
 | 3,h=>cases h;exact .inr ⟨rfl,rfl⟩
def OK (D:Nat->Prop):Nat->Nat->ISt->IV->Prop
 | 0,_,_,x=>Z0 x
 | d+1,s,st,x=>Z0 x\/∃g n c cs v,x=.raw (.slice (some ⟨g,0,none⟩) n c)/\D g/\n<=140737488355328/\n<=c/\st g=some (.box cs)/\c*s<=cs.length/\cs[0]?=some v/\hdK s v /\
   ∀i,i<n->(∀j,j<s->∃y,cs[i*s+j]?=some y/\y.one=true/\y.def_)/\∀j y s',cs[i*s+j]?=some y->nx s j=some s'->OK D d s' st y
theorem OK.zero {D:Nat->Prop}{d s:Nat}{st:ISt}{x:IV}(h:Z0 x):OK D d s st x:=by cases d<;>first|exact h|exact .inl h
theorem Z0.raw {g n c:Nat}(h:Z0 (.raw (.slice (some ⟨g,0,none⟩) n c))):False:=by
 rcases h with⟨_,_,h⟩|h<;>cases h
theorem OK.raw {D:Nat->Prop}{d s g n c:Nat}{st:ISt}(h:OK D d s st (.raw (.slice (some ⟨g,0,none⟩) n c))):∃e cs v,d=e+1/\D g/\n<=140737488355328/\n<=c/\st g=some (.box cs)/\c*s<=cs.length/\cs[0]?=some v/\hdK s v /\
   ∀i,i<n->(∀j,j<s->∃y,cs[i*s+j]?=some y/\y.one=true/\y.def_)/\∀j y s',cs[i*s+j]?=some y->nx s j=some s'->OK D e s' st y:=by
 cases d with
 | zero=>exact (Z0.raw h).elim
 | succ e =>
  rcases h with h|⟨g',n',c',cs,v,he,h⟩
  ·exact (Z0.raw h).elim
  ·cases he;exact⟨e,cs,v,rfl,h⟩
theorem OK.up {D:Nat->Prop}:∀ {d s:Nat} {st:ISt} {x:IV},OK D d s st x->OK D (d+1) s st x
 | 0,_,_,_,h=>.inl h
 | d+1,s,st,x,h=>by
  rcases h with h|⟨g,n,c,cs,v,h1,h2,h3,h4,h5,h6,h7,h8,h9⟩
  ·exact .inl h
  ·exact .inr ⟨g,n,c,cs,v,h1,h2,h3,h4,h5,h6,h7,h8,λi hi=>⟨(h9 i hi).1,λj y s' hy hn=>((h9 i hi).2 j y s' hy hn).up⟩⟩
theorem OK.le {D:Nat->Prop}{d e s:Nat}{st:ISt}{x:IV}(h:OK D d s st x)(hde:d<=e):OK D e s st x:=by
 induction hde with
 | refl=>exact h
 | step _ ih=>exact ih.up
theorem OK.mono {D:Nat->Prop}:∀ {d s:Nat} {st st':ISt} {x:IV},subSt st st'->OK D d s st x->OK D d s st' x
 | 0,_,_,_,_,_,h=>h
 | d+1,s,st,st',x,hs,h=>by
  rcases h with h|⟨g,n,c,cs,v,h1,h2,h3,h4,h5,h6,h7,h8,h9⟩
  ·exact .inl h
  ·exact .inr ⟨g,n,c,cs,v,h1,h2,h3,h4,hs _ _ h5,h6,h7,h8,λi hi=>⟨(h9 i hi).1,λj y s' hy hn=>((h9 i hi).2 j y s' hy hn).mono hs⟩⟩
structure Ow (D:Nat->Prop)(st st':ISt):Prop where
 dom:∀b,¬ D b->st' b=st b
 keep:∀d s x,OK D d s st x->OK D d s st' x
theorem Ow.refl (D:Nat->Prop)(st:ISt):Ow D st st:=⟨λ_ _=>rfl,λ_ _ _ h=>h⟩
theorem Ow.trans {D:Nat->Prop}{a b c:ISt}(h:Ow D a b)(k:Ow D b c):Ow D a c:=⟨λg hg=>(k.dom g hg).trans (h.dom g hg),λd s x hx=>k.keep d s x (h.keep d s x hx)⟩
structure Wr (s:Nat)(w:List IV):Prop where
 len:w.length=s
 hd:∃v,w[0]?=some v/\hdK s v
 one:∀y∈w,y.one=true/\y.def_
 z:∀j y s',w[j]?=some y->nx s j=some s'->Z0 y
theorem OK.put {D:Nat->Prop}{st:ISt}{g s0 i:Nat}{cs w:List IV}{v:IV}(hg:st g=some (.box cs))(h0:cs[0]?=some v)(hv:hdK s0 v)(hle:i*s0+s0<=cs.length)(hw:Wr s0 w) :
  ∀(d s:Nat) (x:IV),OK D d s st x->OK D d s (st.put g (some (.box (yX2 cs (i*s0) w)))) x
 | 0,_,_,h=>h
 | d+1,s,x,h=>by
  rcases h with h|⟨g',n,c,cs',u,h1,h2,h3,h4,h5,h6,h7,h8,h9⟩
  ·exact .inl h
  have hl:i*s0+w.length<=cs.length:=by rw[hw.len];exact hle
  by_cases hgg:g'=g
  ·subst hgg;rw[hg] at h5;cases h5;rw[h0] at h7;cases h7;obtain rfl:=hv.one h8;have hget:∀k,(yX2 cs (i*s0) w)[k]?=if i*s0<=k/\k<i*s0+s0 then w[k-i*s0]? else cs[k]?:=λk=>by rw[xU7 hl,hw.len]
   have hs0:0<s0:=by
    rcases Nat.eq_zero_or_pos s0 with rfl|h
    ·exact hv.elim
    ·exact h
   have hq:∃v',(yX2 cs (i*s0) w)[0]?=some v'/\hdK s0 v':=by
    rw[hget];split
    ·rename_i hk;obtain⟨v',h1,h2⟩:=hw.hd;rw[show 0-i*s0=0 by omega];exact⟨v',h1,h2⟩
    ·exact⟨v,h0,hv⟩
   obtain⟨v',e1,e2⟩:=hq;refine .inr ⟨g',n,c,_,v',h1,h2,h3,h4,ISt.put_same ..,by rw[xU6 hl];exact h6,e1,e2,λk hk=>?_⟩;obtain⟨a1,a2⟩:=h9 k hk;by_cases hki:k=i
   ·subst hki;refine⟨λj hj=>?_,λj y s' hy hn=>?_⟩
    ·rw[hget,if_pos ⟨by omega,by omega⟩,show k*s0+j-k*s0=j by omega];obtain⟨y,hy⟩:=yQ2 (l:=w) (k:=j) (by rw[hw.len];exact hj);exact⟨y,hy,hw.one y (lMg hy)⟩
    ·have hj:=vZn hn;rw[hget,if_pos ⟨by omega,by omega⟩,show k*s0+j-k*s0=j by omega] at hy;exact .zero (hw.z j y s' hy hn)
   ·have hout:∀j,j<s0->¬(i*s0<=k*s0+j/\k*s0+j<i*s0+s0):=λj hj hc=>by
     rcases Nat.lt_or_gt_of_ne hki with h|h
     ·have:=Nat.mul_le_mul_right s0 (show k+1<=i from h);rw[Nat.add_mul] at this;omega
     ·have:=Nat.mul_le_mul_right s0 (show i+1<=k from h);rw[Nat.add_mul] at this;omega
    refine⟨λj hj=>?_,λj y s' hy hn=>OK.put hg h0 hv hle hw d s' y (a2 j y s' ?_ hn)⟩
    ·rw[hget,if_neg (hout j hj)];exact a1 j hj
    ·rw[hget,if_neg (hout j (vZn hn))] at hy;exact hy
  ·exact .inr ⟨g',n,c,cs',u,h1,h2,h3,h4,by rw[yQz hgg];exact h5,h6,h7,h8,λk hk=>by
    obtain⟨a1,a2⟩:=h9 k hk;exact⟨a1,λj y s' hy hn=>OK.put hg h0 hv hle hw d s' y (a2 j y s' hy hn)⟩⟩
theorem Ow.put {D:Nat->Prop}{st:ISt}{g s0 i:Nat}{cs w:List IV}{v:IV}(hD:D g)(hg:st g=some (.box cs))(h0:cs[0]?=some v)(hv:hdK s0 v)(hle:i*s0+s0<=cs.length)(hw:Wr s0 w):Ow D st (st.put g (some (.box (yX2 cs (i*s0) w)))) :=
 ⟨λb hb=>yQz (by rintro rfl;exact hb hD),OK.put hg h0 hv hle hw⟩
theorem wr3 (k j:Nat):Wr 3 (mkC k j):=⟨rfl,⟨_,rfl,_,rfl⟩,λy hy=>by
  simp only[mkC,List.mem_cons,List.not_mem_nil,or_false] at hy;rcases hy with rfl|rfl|rfl<;>exact⟨rfl,λh=>by cases h⟩,λj y s' hy hn=>by
  obtain⟨rfl,rfl⟩:=nx3 hn;cases hy;exact .inl ⟨_,_,rfl⟩⟩
theorem wr4 (k j:Nat):Wr 4 (mkD k j):=⟨rfl,⟨_,rfl,_,rfl⟩,λy hy=>by
  simp only[mkD,List.mem_cons,List.not_mem_nil,or_false] at hy;rcases hy with rfl|rfl|rfl|rfl<;>exact⟨rfl,λh=>by cases h⟩,λj y s' hy hn=>by
  rcases nx4 hn with⟨rfl,rfl⟩|⟨rfl,rfl⟩<;>(cases hy;exact .inl ⟨_,_,rfl⟩)⟩
theorem zX0 (D:Nat->Prop)(f:Bool)(e:Nat)(st:ISt):ICall prog gl 196 [.sl ⟨f,.nil,e⟩ []] st (λ_ st'=>Ow D st st'):=by
 refine iI func196 ?_;simp only[go_sem];refine LoopC.ctr 0 (λk fr st' ds=>fr 0=.iv (.sl ⟨f,.nil,e⟩ [])/\fr 2=.iv (.raw (.int .i64 0))/\st'=st/\ds=[]) ?_ ?_ ?_
 ·simp only[go_sem,reduceCtorEq]
 ·intro k _ _ _ h;omega
 ·rintro fr st _ ⟨f0,f2,rfl,rfl⟩;simp only[go_sem,zE,zL,reduceCtorEq,f0,f2,show decide ((0:Int)<((0:Nat):Int))=false from rfl,show IntKind.i64.wrap (((0:Nat):Int)+12)=12 from rfl,show min (0:Int) 12=((0:Nat):Int) from rfl,yKd (Nat.le_refl 0)];intros;refine LoopC.ctr 0 (λk fr st' ds=>(∃t,fr 3=.iv (.sl t []))/\fr 4=.iv (.raw (.int .i64 0))/\st'=st/\ds=[]) ?_ ?_ ?_
  ·simp only[go_sem,zE];exact⟨_,rfl⟩
  ·intro k _ _ _ h;omega
  ·rintro fr st _ ⟨⟨t,f3⟩,f4,rfl,rfl⟩;simp only[go_sem,zE,zL,f3,f4,show decide ((0:Int)<((0:Nat):Int))=false from rfl];intros;exact yQ0 (Ow.refl _ _)
theorem zX2 (D:Nat->Prop)(f:Bool)(e:Nat)(st:ISt):ICall prog gl 103 [.sl ⟨f,.nil,e⟩ []] st (λ_ st'=>Ow D st st'):=by
 refine iI func103 ?_;simp only[go_sem];refine LoopC.ctr 0 (λk fr st' ds=>fr 0=.iv (.sl ⟨f,.nil,e⟩ [])/\fr 2=.iv (.raw (.int .i64 0))/\st'=st/\ds=[]) ?_ ?_ ?_
 ·simp only[go_sem,reduceCtorEq]
 ·intro k _ _ _ h;omega
 ·rintro fr st _ ⟨f0,f2,rfl,rfl⟩;simp only[go_sem,zE,zL,reduceCtorEq,f0,f2,show decide ((0:Int)<((0:Nat):Int))=false from rfl,show IntKind.i64.wrap (((0:Nat):Int)+12)=12 from rfl,show min (0:Int) 12=((0:Nat):Int) from rfl,yKd (Nat.le_refl 0)];intros;refine LoopC.ctr 0 (λk fr st' ds=>(∃t,fr 3=.iv (.sl t []))/\fr 4=.iv (.raw (.int .i64 0))/\st'=st/\ds=[]) ?_ ?_ ?_
  ·simp only[go_sem,zE];exact⟨_,rfl⟩
  ·intro k _ _ _ h;omega
  ·rintro fr st _ ⟨⟨t,f3⟩,f4,rfl,rfl⟩;simp only[go_sem,zE,zL,f3,f4,show decide ((0:Int)<((0:Nat):Int))=false from rfl];intros;exact yQ0 (Ow.refl _ _)
theorem zZy {D:Nat->Prop}{x:IV}(h:Z0 x)(st:ISt):ICall prog gl 196 [x] st (λ_ st'=>Ow D st st'):=by
 rcases h with⟨f,e,rfl⟩|rfl
 ·exact zX0 gl D f e st
 ·exact ICall.nil1 (zX0 gl D _ _ st)
theorem zX1 {D:Nat->Prop}{x:IV}(h:Z0 x)(st:ISt):ICall prog gl 103 [x] st (λ_ st'=>Ow D st st'):=by
 rcases h with⟨f,e,rfl⟩|rfl
 ·exact zX2 gl D f e st
 ·exact ICall.nil1 (zX2 gl D _ _ st)
theorem xQm {D:Nat->Prop}{a b y:IV}{st:ISt}(ha:a.one=true)(hb:b.one=true)(hy1:y.one=true)(hy:y.def_)(h:ICall prog gl 196 [y] st (λ_ st'=>Ow D st st')) :
  ICall prog gl 257 [.agg [a,b,y]] st (λ_ st'=>Ow D st st'):=by
 refine iI func257 ?_;simp only[go_sem,zE,zA,ha,hb,hy1,zQ9 hy];refine h.mono ?_;rintro _ st2 hov;simp only[go_sem];exact yQ0 hov
theorem zZz (D:Nat->Prop):∀(d:Nat) (x:IV) (st:ISt),OK D d 3 st x->ICall prog gl 196 [x] st (λ_ st'=>Ow D st st')
 | 0,x,st,h=>zZy gl h st
 | d+1,x,st,h=>by
  have part:∀ {st1:ISt} {cells cs1:List IV} {k:Nat},cells.length=3->(∀j,j<3->∃y,cells[j]?=some y/\cs1[k*3+j]?=some y/\y.one=true/\y.def_)->(∀j y s',cs1[k*3+j]?=some y->nx 3 j=some s'->OK D d s' st1 y) →
    ICall prog gl 257 [.agg cells] st1 (λ_ st'=>Ow D st1 st'):=by
   intro st1 cells cs1 k hl hc h2
   match cells,hl with
   | [a,b,y],_ =>
    obtain⟨_,e0,_,a0,_⟩:=hc 0 (by omega);obtain⟨_,e1,_,a1,_⟩:=hc 1 (by omega);obtain⟨_,e2,q2,a2,d2⟩:=hc 2 (by omega);cases e0;cases e1;cases e2;exact xQm gl a0 a1 a2 d2 (zZz D d y st1 (h2 2 _ 3 q2 rfl))
  rcases h with h|⟨g,n,c,cs,v,rfl,hD,hn,hnc,hg,hlen,h0,hv,hi⟩
  ·exact zZy gl h st
  have hw:OK D (d+1) 3 st (.raw (.slice (some ⟨g,0,none⟩) n c)):=.inr ⟨g,n,c,cs,v,rfl,hD,hn,hnc,hg,hlen,h0,hv,hi⟩;clear hg hlen h0 hv hi;have hwn:IntKind.i64.wrap ((n:Int)+12)=((n+12:Nat):Int):=by rw[w64]<;>omega
  have hmin:min (c:Int) ((n+12:Nat):Int)=((min c (n+12):Nat):Int):=by omega
  generalize hm:min c (n+12)=m at hmin;have hmc:m<=c:=by omega
  have hmb:m<=281474976710000:=by omega
  refine iI func196 ?_;simp only[go_sem];refine LoopC.ctr n (λk fr st' ds=>fr 0=.iv (.raw (.slice (some ⟨g,0,none⟩) n c))/\fr 2=.iv (.raw (.int .i64 k))/\Ow D st st'/\ds=[]) ?_ ?_ ?_
  ·simp only[go_sem,reduceCtorEq];exact⟨rfl,Ow.refl _ _⟩
  ·rintro k fr st1 _ hlt ⟨f0,f2,hov,rfl⟩;obtain⟨e,cs1,v,he,_,_,_,hg1,hl1,_,_,hi1⟩:=(hov.keep _ _ _ hw).raw;obtain rfl:d=e:=by omega
   obtain⟨hone,h2⟩:=hi1 k hlt;have hle:k*3+3<=cs1.length:=by
    have:=Nat.mul_le_mul_right 3 (show k+1<=c by omega);omega
   obtain⟨cells,hcl,hcells⟩:∃l,l=(cs1.drop (k*3)).take 3/\∀j,j<3->∃y,l[j]?=some y/\cs1[k*3+j]?=some y/\y.one=true/\y.def_:=⟨_,rfl,λj hj=>by
    obtain⟨y,hy,h⟩:=hone j hj;exact⟨y,by rw[List.getElem?_take,if_pos hj,List.getElem?_drop];exact hy,hy,h⟩⟩
   have hc4:cells.length=3:=by rw[hcl,List.length_take,List.length_drop];omega
   have hcall:=part hc4 hcells h2;simp only[go_sem,zE,zA,reduceCtorEq,f0,f2,lt_i hlt,iNn,hlt,hg1,hle,hcl.symm];refine hcall.mono ?_;rintro _ st2 hov2;simp only[go_sem,zE,reduceCtorEq,f0,f2,yQa hlt (show n<=281474976710656 by omega)];exact hov.trans hov2
  ·rintro fr st1 _ ⟨f0,f2,hov,rfl⟩;simp only[go_sem,zE,reduceCtorEq,f0,f2,yQk (nLi _),hwn,hmin,hnc,yKd hmc,ite_self,Nat.zero_mul];refine LoopC.ctr m (λk fr st' ds=>fr 3=.iv (.raw (.slice (some ⟨g,0,none⟩) m c))/\fr 4=.iv (.raw (.int .i64 k))/\Ow D st st'/\ds=[]) ?_ ?_ ?_
   ·simp only[go_sem,zE];exact⟨rfl,hov⟩
   ·rintro k fr st2 _ hlt ⟨f3,f4,hov2,rfl⟩;obtain⟨e,cs1,v,he,_,_,_,hg1,hl1,h0,hv,hi1⟩:=(hov2.keep _ _ _ hw).raw;have hle:k*3+3<=cs1.length:=by
     have:=Nat.mul_le_mul_right 3 (show k+1<=c by omega);omega
    have hmk:=zZ2 gl 2 k st2;have hput:=Ow.put hD hg1 h0 hv hle (wr3 2 k);simp only[go_sem,zE,zA,f3,f4,lt_i hlt];refine hmk.mono ?_;rintro _ st2 ⟨rfl,rfl⟩;generalize hst3:st2.put g (some (.box (yX2 cs1 (k*3) (mkC 2 k))))=st3 at hput;have hov3:=hov2.trans hput;have hall:(mkC 2 k).all IV.one=true:=rfl;have hml:(mkC 2 k).length=3:=rfl;unfold yX2 at hst3;rw[hml] at hst3;simp only[go_sem,zE,f3,f4,iNn,hlt,hg1,hle,hall,hml,hst3,yQa hlt (show m<=281474976710656 by omega)];exact hov3
   ·rintro fr st2 _ ⟨f3,f4,hov2,rfl⟩;simp only[go_sem,zE,f3,f4,yQk (nLi _)];intros;exact yQ0 hov2
theorem xQn {D:Nat->Prop}{a b y z:IV}{st:ISt}{d:Nat}(ha:a.one=true)(hb:b.one=true)(hy1:y.one=true)(hy:y.def_)(hz1:z.one=true)(hz:z.def_)(h:OK D d 3 st y)(hzo:OK D d 4 st z)
  (IH:∀st,OK D d 4 st z->ICall prog gl 103 [z] st (λ_ st'=>Ow D st st')) :
  ICall prog gl 146 [.agg [a,b,y,z]] st (λ_ st'=>Ow D st st'):=by
 have h1:=zZz gl D d y st h;refine iI func146 ?_;simp only[go_sem,zE,zA,ha,hb,hy1,hz1,zQ9 hy];refine h1.mono ?_;rintro _ st2 hov;simp only[go_sem,zE,zA,zQ9 hz];refine (IH _ (hov.keep _ _ _ hzo)).mono ?_;rintro _ st3 hov2;simp only[go_sem];exact yQ0 (hov.trans hov2)
theorem yYy (D:Nat->Prop):∀(d:Nat) (x:IV) (st:ISt),OK D d 4 st x->ICall prog gl 103 [x] st (λ_ st'=>Ow D st st')
 | 0,x,st,h=>zX1 gl h st
 | d+1,x,st,h=>by
  have part:∀ {st1:ISt} {cells cs1:List IV} {k:Nat},cells.length=4->(∀j,j<4->∃y,cells[j]?=some y/\cs1[k*4+j]?=some y/\y.one=true/\y.def_)->(∀j y s',cs1[k*4+j]?=some y->nx 4 j=some s'->OK D d s' st1 y) →
    ICall prog gl 146 [.agg cells] st1 (λ_ st'=>Ow D st1 st'):=by
   intro st1 cells cs1 k hl hc h2
   match cells,hl with
   | [a,b,y,z],_ =>
    obtain⟨_,e0,_,a0,_⟩:=hc 0 (by omega);obtain⟨_,e1,_,a1,_⟩:=hc 1 (by omega);obtain⟨_,e2,q2,a2,d2⟩:=hc 2 (by omega);obtain⟨_,e3,q3,a3,d3⟩:=hc 3 (by omega);cases e0;cases e1;cases e2;cases e3;exact xQn gl a0 a1 a2 d2 a3 d3 (h2 2 _ 3 q2 rfl) (h2 3 _ 4 q3 rfl) (λst=>yYy D d z st)
  rcases h with h|⟨g,n,c,cs,v,rfl,hD,hn,hnc,hg,hlen,h0,hv,hi⟩
  ·exact zX1 gl h st
  have hw:OK D (d+1) 4 st (.raw (.slice (some ⟨g,0,none⟩) n c)):=.inr ⟨g,n,c,cs,v,rfl,hD,hn,hnc,hg,hlen,h0,hv,hi⟩;clear hg hlen h0 hv hi;have hwn:IntKind.i64.wrap ((n:Int)+12)=((n+12:Nat):Int):=by rw[w64]<;>omega
  have hmin:min (c:Int) ((n+12:Nat):Int)=((min c (n+12):Nat):Int):=by omega
  generalize hm:min c (n+12)=m at hmin;have hmc:m<=c:=by omega
  have hmb:m<=281474976710000:=by omega
  refine iI func103 ?_;simp only[go_sem];refine LoopC.ctr n (λk fr st' ds=>fr 0=.iv (.raw (.slice (some ⟨g,0,none⟩) n c))/\fr 2=.iv (.raw (.int .i64 k))/\Ow D st st'/\ds=[]) ?_ ?_ ?_
  ·simp only[go_sem,reduceCtorEq];exact⟨rfl,Ow.refl _ _⟩
  ·rintro k fr st1 _ hlt ⟨f0,f2,hov,rfl⟩;obtain⟨e,cs1,v,he,_,_,_,hg1,hl1,_,_,hi1⟩:=(hov.keep _ _ _ hw).raw;obtain rfl:d=e:=by omega
   obtain⟨hone,h2⟩:=hi1 k hlt;have hle:k*4+4<=cs1.length:=by
    have:=Nat.mul_le_mul_right 4 (show k+1<=c by omega);omega
   obtain⟨cells,hcl,hcells⟩:∃l,l=(cs1.drop (k*4)).take 4/\∀j,j<4->∃y,l[j]?=some y/\cs1[k*4+j]?=some y/\y.one=true/\y.def_:=⟨_,rfl,λj hj=>by
    obtain⟨y,hy,h⟩:=hone j hj;exact⟨y,by rw[List.getElem?_take,if_pos hj,List.getElem?_drop];exact hy,hy,h⟩⟩
   have hc4:cells.length=4:=by rw[hcl,List.length_take,List.length_drop];omega
   have hcall:=part hc4 hcells h2;simp only[go_sem,zE,zA,reduceCtorEq,f0,f2,lt_i hlt,iNn,hlt,hg1,hle,hcl.symm];refine hcall.mono ?_;rintro _ st2 hov2;simp only[go_sem,zE,reduceCtorEq,f0,f2,yQa hlt (show n<=281474976710656 by omega)];exact hov.trans hov2
  ·rintro fr st1 _ ⟨f0,f2,hov,rfl⟩;simp only[go_sem,zE,reduceCtorEq,f0,f2,yQk (nLi _),hwn,hmin,hnc,yKd hmc,ite_self,Nat.zero_mul];refine LoopC.ctr m (λk fr st' ds=>fr 3=.iv (.raw (.slice (some ⟨g,0,none⟩) m c))/\fr 4=.iv (.raw (.int .i64 k))/\Ow D st st'/\ds=[]) ?_ ?_ ?_
   ·simp only[go_sem,zE];exact⟨rfl,hov⟩
   ·rintro k fr st2 _ hlt ⟨f3,f4,hov2,rfl⟩;obtain⟨e,cs1,v,he,_,_,_,hg1,hl1,h0,hv,hi1⟩:=(hov2.keep _ _ _ hw).raw;have hle:k*4+4<=cs1.length:=by
     have:=Nat.mul_le_mul_right 4 (show k+1<=c by omega);omega
    have hmk:=zZ3 gl 2 k st2;have hput:=Ow.put hD hg1 h0 hv hle (wr4 2 k);simp only[go_sem,zE,zA,f3,f4,lt_i hlt];refine hmk.mono ?_;rintro _ st2 ⟨rfl,rfl⟩;generalize hst3:st2.put g (some (.box (yX2 cs1 (k*4) (mkD 2 k))))=st3 at hput;have hov3:=hov2.trans hput;have hall:(mkD 2 k).all IV.one=true:=rfl;have hml:(mkD 2 k).length=4:=rfl;unfold yX2 at hst3;rw[hml] at hst3;simp only[go_sem,zE,f3,f4,iNn,hlt,hg1,hle,hall,hml,hst3,yQa hlt (show m<=281474976710656 by omega)];exact hov3
   ·rintro fr st2 _ ⟨f3,f4,hov2,rfl⟩;simp only[go_sem,zE,f3,f4,yQk (nLi _)];intros;exact yQ0 hov2
theorem xYk {D:Nat->Prop}{d:Nat}{y z:IV}{st:ISt}(hy1:y.one=true)(hy:y.def_)(hz1:z.one=true)(hz:z.def_)(h:OK D d 4 st y)(h':OK D d 4 st z) :
  ICall prog gl 54 [.agg [y,z]] st (λ_ st'=>Ow D st st'):=by
 have h1:=yYy gl D d y st h;have h2:=λst=>yYy gl D d z st;refine iI func54 ?_;simp only[go_sem,zE,zA,hy1,hz1,zQ9 hy];refine h1.mono ?_;rintro _ st2 hov;simp only[go_sem,zE,zA,zQ9 hz];refine (h2 _ (hov.keep _ _ _ h')).mono ?_;rintro _ st3 hov2;simp only[go_sem];exact yQ0 (hov.trans hov2)
theorem xV0 {N:ISt}(hraw:wJa N):∀(k:Nat) (us:List Tm),SizeOf.sizeOf us<k->∀(y:IV) (t:Tag) (xs:List IV),(∃v,y=.raw v)->OI N y (.sl t xs)->okEs t 3->IsTms us xs->dfr (.sl t xs)->∃d,OK (λb=>N b≠none) d 3 N y
 | 0,_,h=>by omega
 | k+1,us,hk=>by
  rintro y t xs ⟨v,rfl⟩ ho hes hxs hd;simp only[dfr] at hd;cases ho with
  | nil _ h=>exact⟨0,.inr rfl⟩
  | sl g cap _ _ cs hcap hlen hcl hs hst hroom h =>
   have h3:=xV2 hes hcap;rw[h3] at hroom;have hs3:∀x∈xs,x.cells.length=3:=λx hx=>by rw[hs x hx,h3]
   have hpos:0<xs.length:=by
    rcases hd.1 with hn|hp
    ·rw[hcap] at hn;cases hn
    ·exact hp.1
   have hcc:=Nat.mul_le_mul_right 3 hcl;have part:∀i,i<xs.length->∃r0 r1 r2 v n us' t' xs',cs[3*i]?=some r0/\cs[3*i+1]?=some r1/\cs[3*i+2]?=some r2/\Tm.mk v n us'∈us/\r0=.raw (.bool v)/\r1=.raw (.string n)/\OI N r2 (.sl t' xs')/\okEs t' 3/\IsTms us' xs'/\dfr (.sl t' xs'):=λi hi=>by
    obtain⟨x,hx⟩:=yQ2 hi;obtain⟨⟨v,n,us'⟩,ha,hax⟩:=hxs.mem hx;have hdx:=yK1 hd.2.1 (lMg hx);obtain⟨t',xs',rfl,ht',hxs'⟩:=hax.mk;obtain⟨r0,hr0⟩:=yQ2 (show 3*i<cs.length by omega);obtain⟨r1,hr1⟩:=yQ2 (show 3*i+1<cs.length by omega);obtain⟨r2,hr2⟩:=yQ2 (show 3*i+2<cs.length by omega);have e0:=yY2 hs3 hx (show 0<3 by omega);have e1:=yY2 hs3 hx (show 1<3 by omega);have e2:=yY2 hs3 hx (show 2<3 by omega);simp only[dfr] at hdx;exact⟨r0,r1,r2,v,n,us',t',xs',hr0,hr1,hr2,lMg ha,(h _ _ _ hr0 e0).raw_eq,(h _ _ _ hr1 e1).raw_eq,h _ _ _ hr2 e2,ht',hxs',yK1 hdx.1 (by simp)⟩
   have each:∀i,i<xs.length->∃d,∀y,cs[i*3+2]?=some y->OK (λb=>N b≠none) d 3 N y:=λi hi=>by
    obtain⟨r0,r1,r2,v,n,us',t',xs',_,_,k2,k3,_,_,k5,k6,k7,k8⟩:=part i hi;obtain⟨w,hw⟩:=zQy (hraw _ _ hst r2 (lMg k2)) k5;obtain⟨d,hd⟩:=xV0 hraw k us' (by have:=lSm k3;simp at this;omega) _ _ _ ⟨w,hw⟩ k5 k6 k7 k8;refine⟨d,λy hy=>?_⟩;rw[Nat.mul_comm,k2] at hy;cases hy;exact hd
   obtain⟨d,hd'⟩:=zKr (P:=λd i=>∀y,cs[i*3+2]?=some y->OK (λb=>N b≠none) d 3 N y) (λd i h y hy=>(h y hy).up) _ each;obtain⟨r0,_,_,v,_,_,_,_,k0,_,_,_,q0,_⟩:=part 0 hpos;refine⟨d+1,.inr ⟨g,xs.length,cap,cs,.raw (.bool v),rfl,(by show N g≠none;rw[hst];exact λh=>by cases h),hlen,hcl,hst,hroom,by rw[<- q0];exact k0,⟨v,rfl⟩,λi hi=>⟨λj hj=>?_,λj y s' hy hn=>by
    obtain⟨rfl,rfl⟩:=nx3 hn;exact hd' i hi y hy⟩⟩⟩
   obtain⟨r0,r1,r2,v,n,us',t',xs',k0,k1,k2,_,q0,q1,k5,_⟩:=part i hi;obtain⟨w,hw⟩:=zQy (hraw _ _ hst r2 (lMg k2)) k5;rw[Nat.mul_comm]
   match j,hj with
   | 0,_=>exact⟨r0,k0,by rw[q0];exact⟨rfl,λh=>by cases h⟩⟩
   | 1,_=>exact⟨r1,k1,by rw[q1];exact⟨rfl,λh=>by cases h⟩⟩
   | 2,_ =>
    refine⟨r2,k2,?_⟩;subst hw;refine⟨?_,λh=>by cases h⟩;cases k5<;>rfl
theorem zYs {N:ISt}(hraw:wJa N):∀(k:Nat) (us:List Fm),SizeOf.sizeOf us<k->∀(y:IV) (t:Tag) (xs:List IV),(∃v,y=.raw v)->OI N y (.sl t xs)->okEs t 4->IsFms us xs->dfr (.sl t xs)->∃d,OK (λb=>N b≠none) d 4 N y
 | 0,_,h=>by omega
 | k+1,us,hk=>by
  rintro y t xs ⟨v,rfl⟩ ho hes hxs hd;simp only[dfr] at hd;cases ho with
  | nil _ h=>exact⟨0,.inr rfl⟩
  | sl g cap _ _ cs hcap hlen hcl hs hst hroom h =>
   have h3:=xV2 hes hcap;rw[h3] at hroom;have hs3:∀x∈xs,x.cells.length=4:=λx hx=>by rw[hs x hx,h3]
   have hpos:0<xs.length:=by
    rcases hd.1 with hn|hp
    ·rw[hcap] at hn;cases hn
    ·exact hp.1
   have hcc:=Nat.mul_le_mul_right 4 hcl;have part:∀i,i<xs.length->∃r0 r1 r2 r3 o n us' sub' t' xs' t'' xs'',cs[4*i]?=some r0/\cs[4*i+1]?=some r1/\cs[4*i+2]?=some r2/\cs[4*i+3]?=some r3/\Fm.mk o n us' sub'∈us/\r0=.raw (.int .u8 o)/\r1=.raw (.string n) /\
     (OI N r2 (.sl t' xs')/\okEs t' 3/\IsTms us' xs'/\dfr (.sl t' xs'))/\OI N r3 (.sl t'' xs'')/\okEs t'' 4/\IsFms sub' xs''/\dfr (.sl t'' xs''):=λi hi=>by
    obtain⟨x,hx⟩:=yQ2 hi;obtain⟨⟨o,n,us',sub'⟩,ha,hax⟩:=hxs.mem hx;have hdx:=yK1 hd.2.1 (lMg hx);obtain⟨t',xs',t'',xs'',rfl,_,ht',hxs',ht'',hxs''⟩:=hax.mk;obtain⟨r0,hr0⟩:=yQ2 (show 4*i<cs.length by omega);obtain⟨r1,hr1⟩:=yQ2 (show 4*i+1<cs.length by omega);obtain⟨r2,hr2⟩:=yQ2 (show 4*i+2<cs.length by omega);obtain⟨r3,hr3⟩:=yQ2 (show 4*i+3<cs.length by omega);have e0:=yY2 hs3 hx (show 0<4 by omega);have e1:=yY2 hs3 hx (show 1<4 by omega);have e2:=yY2 hs3 hx (show 2<4 by omega);have e3:=yY2 hs3 hx (show 3<4 by omega);simp only[dfr] at hdx;exact⟨r0,r1,r2,r3,o,n,us',sub',t',xs',t'',xs'',hr0,hr1,hr2,hr3,lMg ha,(h _ _ _ hr0 e0).raw_eq,(h _ _ _ hr1 e1).raw_eq,⟨h _ _ _ hr2 e2,ht',hxs',yK1 hdx.1 (by simp)⟩,h _ _ _ hr3 e3,ht'',hxs'',yK1 hdx.1 (by simp)⟩
   have each:∀i,i<xs.length->∃d,(∀y,cs[i*4+2]?=some y->OK (λb=>N b≠none) d 3 N y)/\∀y,cs[i*4+3]?=some y->OK (λb=>N b≠none) d 4 N y:=λi hi=>by
    obtain⟨r0,r1,r2,r3,o,n,us',sub',t',xs',t'',xs'',_,_,k2,k3,km,_,_,⟨a1,a2,a3,a4⟩,b1,b2,b3,b4⟩:=part i hi;obtain⟨w,hw⟩:=zQy (hraw _ _ hst r2 (lMg k2)) a1;obtain⟨w',hw'⟩:=zQy (hraw _ _ hst r3 (lMg k3)) b1;obtain⟨d,hd⟩:=xV0 hraw _ us' (Nat.lt_succ_self _) _ _ _ ⟨w,hw⟩ a1 a2 a3 a4;obtain⟨e,he⟩:=zYs hraw k sub' (by have:=lSm km;simp at this;omega) _ _ _ ⟨w',hw'⟩ b1 b2 b3 b4;refine⟨d+e,λy hy=>?_,λy hy=>?_⟩
    ·rw[Nat.mul_comm,k2] at hy;cases hy;exact hd.le (by omega)
    ·rw[Nat.mul_comm,k3] at hy;cases hy;exact he.le (by omega)
   obtain⟨d,hd'⟩:=zKr (P:=λd i=>(∀y,cs[i*4+2]?=some y->OK (λb=>N b≠none) d 3 N y)/\∀y,cs[i*4+3]?=some y->OK (λb=>N b≠none) d 4 N y) (λd i h=>⟨λy hy=>(h.1 y hy).up,λy hy=>(h.2 y hy).up⟩) _ each;obtain⟨r0,_,_,_,o,_,_,_,_,_,_,_,k0,_,_,_,_,q0,_⟩:=part 0 hpos;refine⟨d+1,.inr ⟨g,xs.length,cap,cs,.raw (.int .u8 o),rfl,(by show N g≠none;rw[hst];exact λh=>by cases h),hlen,hcl,hst,hroom,by rw[<- q0];exact k0,⟨o,rfl⟩,λi hi=>⟨λj hj=>?_,λj y s' hy hn=>by
    rcases nx4 hn with⟨rfl,rfl⟩|⟨rfl,rfl⟩
    ·exact (hd' i hi).1 y hy
    ·exact (hd' i hi).2 y hy⟩⟩⟩
   obtain⟨r0,r1,r2,r3,o,n,us',sub',t',xs',t'',xs'',k0,k1,k2,k3,_,q0,q1,⟨a1,_⟩,b1,_⟩:=part i hi;obtain⟨w,hw⟩:=zQy (hraw _ _ hst r2 (lMg k2)) a1;obtain⟨w',hw'⟩:=zQy (hraw _ _ hst r3 (lMg k3)) b1;rw[Nat.mul_comm]
   match j,hj with
   | 0,_=>exact⟨r0,k0,by rw[q0];exact⟨rfl,λh=>by cases h⟩⟩
   | 1,_=>exact⟨r1,k1,by rw[q1];exact⟨rfl,λh=>by cases h⟩⟩
   | 2,_ =>
    refine⟨r2,k2,?_⟩;subst hw;refine⟨?_,λh=>by cases h⟩;cases a1<;>rfl
   | 3,_ =>
    refine⟨r3,k3,?_⟩;subst hw';refine⟨?_,λh=>by cases h⟩;cases b1<;>rfl
end Go.Proofs.Tryz
namespace Go.Proofs.Tryz
open Go Go.Iv
def cmpN (a b:Nat):Int:=if a<b then -1 else if b<a then 1 else 0
noncomputable def cmpB (a b:ByteArray):Int:=if Op.bytesLess a.data.toList b.data.toList=true then -1 else if Op.bytesLess b.data.toList a.data.toList=true then 1 else 0
def lexI (x y:Int):Int:=if x=0 then y else x
mutual
noncomputable def yKu:Tm->Tm->Int
 | .mk v n us,.mk v' n' us'=>if v=v' then lexI (cmpB n n') (lexI (cmpN us.length us'.length) (yXl us us')) else if v=true then -1 else 1
noncomputable def yXl:List Tm->List Tm->Int
 | a::l,b::m=>lexI (yKu a b) (yXl l m)
 | _,_=>0
end
mutual
noncomputable def yZf:Fm->Fm->Int
 | .mk o n us sub,.mk o' n' us' sub'=>lexI (cmpN o o') (lexI (cmpB n n') (lexI (lexI (cmpN us.length us'.length) (yXl us us')) (lexI (cmpN sub.length sub'.length) (yKw sub sub'))))
noncomputable def yKw:List Fm->List Fm->Int
 | a::l,b::m=>lexI (yZf a b) (yKw l m)
 | _,_=>0
end
structure Cp {α:Type}(f:α->α->Int)(a:α):Prop where
 eq:∀b,f a b=0↔a=b
 neg:∀b,f b a = - f a b
 tr:∀b c,f a b<0->f b c<0->f a c<0
theorem yWf {x y:Int}:lexI x y=0↔x=0/\y=0:=by
 unfold lexI;split
 ·rename_i h;simp[h]
 ·rename_i h;simp[h]
theorem yGf (x y:Int):lexI (-x) (-y) = - lexI x y:=by
 unfold lexI;by_cases h:x=0
 ·simp[h]
 ·rw[if_neg (by omega),if_neg h]
theorem zG0 {x y:Int}:lexI x y<0↔x<0\/x=0/\y<0:=by
 unfold lexI;split
 ·rename_i h;simp[h]
 ·rename_i h;simp[h]
theorem xQi {p q r p' q' r':Int}(h1:p<0->q<0->r<0)(h2:p=0->q=r)(h3:q=0->p=r)(h4:p'<0->q'<0->r'<0)(h:lexI p p'<0)(k:lexI q q'<0):lexI r r'<0:=by
 rw[zG0] at *;rcases h with h|⟨h,h'⟩
 ·rcases k with k|⟨k,_⟩
  ·exact .inl (h1 h k)
  ·exact .inl (by rw[<- h3 k];exact h)
 ·rcases k with k|⟨k,k'⟩
  ·exact .inl (by rw[<- h2 h];exact k)
  ·exact .inr ⟨by rw[<- h2 h];exact k,h4 h' k'⟩
theorem zKl (a:Nat):Cp cmpN a:=by
 refine⟨λb=>?_,λb=>?_,λb c=>?_⟩<;>unfold cmpN<;>repeat' split
 all_goals (first|omega|simp_all|(constructor<;>intro<;>omega))
open Classical in
theorem zZe {a b:ByteArray}:cmpB a b=if ltN a b then -1 else if ltN b a then 1 else 0:=by
 unfold cmpB;congr 1
 ·exact propext zXn
 ·congr 1;exact propext zXn
open Classical in
theorem yJj (a:ByteArray):Cp cmpB a:=by
 refine⟨λb=>?_,λb=>?_,λb c=>?_⟩
 ·rw[zZe];by_cases h1:ltN a b
  ·rw[if_pos h1];exact⟨λh=>by omega,λh=>absurd h1 (by rw[h];exact xXy b)⟩
  ·rw[if_neg h1];by_cases h2:ltN b a
   ·rw[if_pos h2];exact⟨λh=>by omega,λh=>absurd h2 (by rw[h];exact xXy b)⟩
   ·rw[if_neg h2];exact⟨λ_=>Classical.byContradiction λhne=>h2 (xQd h1 hne),λ_=>rfl⟩
 ·rw[zZe,zZe];by_cases h1:ltN a b
  ·rw[if_pos h1,if_neg (wQ4 h1),if_pos h1];rfl
  ·by_cases h2:ltN b a
   ·rw[if_pos h2,if_neg h1,if_pos h2]
   ·rw[if_neg h1,if_neg h2,if_neg h2,if_neg h1];rfl
 ·rw[zZe,zZe,zZe];have key:∀x y:ByteArray,(if ltN x y then (-1:Int) else if ltN y x then 1 else 0)<0↔ltN x y:=λx y=>by
   by_cases h1:ltN x y
   ·simp[h1]
   ·by_cases h2:ltN y x<;>simp[h1,h2]
  rw[key,key,key];exact xQc
section
variable {α:Type}{f:α->α->Int}{g:List α->List α->Int}(g0:g [] []=0)(g1:∀a b l m,g (a::l) (b::m)=lexI (f a b) (g l m))
include g0 g1
theorem xXz:∀(l:List α),(∀a∈l,∀b,f a b=0↔a=b)->∀m,l.length=m.length->(g l m=0↔l=m)
 | [],_,m,hm=>by
  obtain rfl:m=[]:=List.eq_nil_of_length_eq_zero hm.symm;simp[g0]
 | a::l,hc,b::m,hm=>by
  rw[g1,yWf,hc a (by simp),xXz l (λb hb=>hc b (by simp[hb])) m (by simpa using hm),List.cons.injEq]
theorem xV9:∀(l:List α),(∀a∈l,∀b,f b a = - f a b)->∀m,l.length=m.length->g m l = - g l m
 | [],_,m,hm=>by
  obtain rfl:m=[]:=List.eq_nil_of_length_eq_zero hm.symm;simp[g0]
 | a::l,hc,b::m,hm=>by
  rw[g1,g1,hc a (by simp),xV9 l (λb hb=>hc b (by simp[hb])) m (by simpa using hm),yGf]
theorem wQ9 (he:∀a b,f a b=0↔a=b):∀(l:List α),(∀a∈l,∀b c,f a b<0->f b c<0->f a c<0)->∀m n,l.length=m.length->m.length=n.length->g l m<0->g m n<0->g l n<0
 | [],_,m,n,hm,hn,h,_=>by
  obtain rfl:m=[]:=List.eq_nil_of_length_eq_zero hm.symm;rw[g0] at h;omega
 | a::l,hc,b::m,c::n,hm,hn,h,k=>by
  rw[g1] at h k ⊢;exact xQi (hc a (by simp) b c) (λe=>by rw[(he a b).1 e]) (λe=>by rw[(he b c).1 e]) (wQ9 he l (λb hb=>hc b (by simp[hb])) m n (by simpa using hm) (by simpa using hn)) h k
end
def lenL {α:Type}(g:List α->List α->Int)(l m:List α):Int:=lexI (cmpN l.length m.length) (g l m)
theorem yX6 {a b:Nat}:cmpN a b=0↔a=b:=(zKl a).eq b
section
variable {α:Type}{f:α->α->Int}{g:List α->List α->Int}(g0:g [] []=0)(g1:∀a b l m,g (a::l) (b::m)=lexI (f a b) (g l m))
include g0 g1
theorem zJs {l:List α}(h:∀a∈l,∀b,f a b=0↔a=b)(m:List α):lenL g l m=0↔l=m:=by
 unfold lenL;rw[yWf,yX6];constructor
 ·rintro⟨h1,h2⟩;exact (xXz g0 g1 l h m h1).1 h2
 ·rintro rfl;exact⟨rfl,(xXz g0 g1 l h l rfl).2 rfl⟩
theorem zG3 {l:List α}(h:∀a∈l,∀b,f b a = - f a b)(m:List α):lenL g m l = - lenL g l m:=by
 unfold lenL;rw[(zKl l.length).neg];by_cases hl:l.length=m.length
 ·rw[xV9 g0 g1 l h m hl,yGf]
 ·have:¬ cmpN l.length m.length=0:=λh=>hl (yX6.1 h);unfold lexI;rw[if_neg (by omega),if_neg this]
theorem xJ2 (he:∀a b,f a b=0↔a=b){l:List α}(h:∀a∈l,∀b c,f a b<0->f b c<0->f a c<0)(m n:List α)(h1:lenL g l m<0)(h2:lenL g m n<0):lenL g l n<0:=by
 unfold lenL at *;rw[zG0] at h1 h2;by_cases hl:l.length=m.length/\m.length=n.length
 ·obtain⟨hl,hm⟩:=hl;have e1:¬ cmpN l.length m.length<0:=by rw[yX6.2 hl];omega
  have e2:¬ cmpN m.length n.length<0:=by rw[yX6.2 hm];omega
  have e3:cmpN l.length n.length=0:=yX6.2 (hl.trans hm);rw[zG0];exact .inr ⟨e3,wQ9 g0 g1 he l h m n hl hm (h1.resolve_left e1).2 (h2.resolve_left e2).2⟩
 ·rw[zG0];left;rcases h1 with h1|⟨h1,_⟩
  ·rcases h2 with h2|⟨h2,_⟩
   ·exact (zKl _).tr _ _ h1 h2
   ·rw[<- yX6.1 h2];exact h1
  ·rcases h2 with h2|⟨h2,_⟩
   ·rw[yX6.1 h1];exact h2
   ·exact absurd ⟨yX6.1 h1,yX6.1 h2⟩ hl
end
theorem yJd:yXl [] []=0:=by simp only[yXl]
theorem yJc (a b:Tm)(l m:List Tm):yXl (a::l) (b::m)=lexI (yKu a b) (yXl l m):=by simp only[yXl]
theorem yVm:yKw [] []=0:=by simp only[yKw]
theorem yVl (a b:Fm)(l m:List Fm):yKw (a::l) (b::m)=lexI (yZf a b) (yKw l m):=by simp only[yKw]
theorem yGn (v v':Bool)(n n':ByteArray)(us us':List Tm):yKu (.mk v n us) (.mk v' n' us')=if v=v' then lexI (cmpB n n') (lenL yXl us us') else if v=true then -1 else 1:=by simp only[yKu,lenL]
theorem yGo (o o':Nat)(n n':ByteArray)(us us':List Tm)(sub sub':List Fm):yZf (.mk o n us sub) (.mk o' n' us' sub')=lexI (cmpN o o') (lexI (cmpB n n') (lexI (lenL yXl us us') (lenL yKw sub sub'))):=by simp only[yZf,lenL]
theorem xGo {p:Tm->Prop}(h:∀v n us,(∀a∈us,p a)->p (.mk v n us))(t:Tm):p t:=by
 have key:∀(k:Nat) (t:Tm),SizeOf.sizeOf t<k->p t:=λk=>by
  induction k with
  | zero=>intro t ht;omega
  | succ k ih =>
   rintro⟨v,n,us⟩ ht;refine h v n us λa ha=>ih a ?_;have:=lSm ha;simp only[Tm.mk.sizeOf_spec] at ht;omega
 exact key _ t (Nat.lt_succ_self _)
theorem wZb {p:Fm->Prop}(h:∀o n us sub,(∀a∈sub,p a)->p (.mk o n us sub))(t:Fm):p t:=by
 have key:∀(k:Nat) (t:Fm),SizeOf.sizeOf t<k->p t:=λk=>by
  induction k with
  | zero=>intro t ht;omega
  | succ k ih =>
   rintro⟨o,n,us,sub⟩ ht;refine h o n us sub λa ha=>ih a ?_;have:=lSm ha;simp only[Fm.mk.sizeOf_spec] at ht;omega
 exact key _ t (Nat.lt_succ_self _)
theorem zQh (a b:Tm):yKu a b=0↔a=b:=by
 revert b;refine xGo (p:=λa=>∀b,yKu a b=0↔a=b) (λv n us ih b=>?_) a;obtain⟨v',n',us'⟩:=b;rw[yGn,Tm.mk.injEq];by_cases hv:v=v'
 ·rw[if_pos hv,yWf,(yJj n).eq,zJs yJd yJc ih];simp[hv]
 ·rw[if_neg hv];simp only[hv,false_and,iff_false];split<;>omega
theorem wZq (a b:Tm):yKu b a = - yKu a b:=by
 revert b;refine xGo (p:=λa=>∀b,yKu b a = - yKu a b) (λv n us ih b=>?_) a;obtain⟨v',n',us'⟩:=b;rw[yGn,yGn];by_cases hv:v=v'
 ·rw[if_pos hv,if_pos hv.symm,(yJj n).neg,zG3 yJd yJc ih,yGf]
 ·rw[if_neg hv,if_neg (λh=>hv h.symm)];cases v<;>cases v'<;>simp_all
theorem wKi (a b c:Tm):yKu a b<0->yKu b c<0->yKu a c<0:=by
 revert b c;refine xGo (p:=λa=>∀b c,yKu a b<0->yKu b c<0->yKu a c<0) (λv n us ih b c=>?_) a;obtain⟨v',n',us'⟩:=b;obtain⟨v'',n'',us''⟩:=c;rw[yGn,yGn,yGn];have hl:=λ(h:lexI (cmpB n n') (lenL yXl us us')<0) (k:lexI (cmpB n' n'') (lenL yXl us' us'')<0) =>
  xQi (r:=cmpB n n'') (r':=lenL yXl us us'') ((yJj n).tr n' n'') (λe=>by rw[((yJj n).eq n').1 e]) (λe=>by rw[((yJj n').eq n'').1 e]) (xJ2 yJd yJc zQh ih us' us'') h k
 cases v<;>cases v'<;>cases v''<;>simp_all
theorem zQj (a b:Fm):yZf a b=0↔a=b:=by
 revert b;refine wZb (p:=λa=>∀b,yZf a b=0↔a=b) (λo n us sub ih b=>?_) a;obtain⟨o',n',us',sub'⟩:=b;rw[yGo,Fm.mk.injEq,yWf,yWf,yWf,yX6,(yJj n).eq,zJs yJd yJc (λa _=>zQh a),zJs yVm yVl ih]
theorem zQi (a b:Fm):yZf b a = - yZf a b:=by
 revert b;refine wZb (p:=λa=>∀b,yZf b a = - yZf a b) (λo n us sub ih b=>?_) a;obtain⟨o',n',us',sub'⟩:=b;rw[yGo,yGo,(zKl o).neg,(yJj n).neg,zG3 yJd yJc (λa _=>wZq a),zG3 yVm yVl ih,yGf,yGf,yGf]
theorem zXt (a b c:Fm):yZf a b<0->yZf b c<0->yZf a c<0:=by
 revert b c;refine wZb (p:=λa=>∀b c,yZf a b<0->yZf b c<0->yZf a c<0) (λo n us sub ih b c=>?_) a;obtain⟨o',n',us',sub'⟩:=b;obtain⟨o'',n'',us'',sub''⟩:=c;rw[yGo,yGo,yGo];refine xQi ((zKl o).tr o' o'') (λe=>by rw[yX6.1 e]) (λe=>by rw[yX6.1 e]) ?_;refine xQi ((yJj n).tr n' n'') (λe=>by rw[((yJj n).eq n').1 e]) (λe=>by rw[((yJj n').eq n'').1 e]) ?_;exact xQi (xJ2 yJd yJc zQh (λa _=>wKi a) us' us'') (λe=>by rw[(zJs yJd yJc (λa _=>zQh a) us').1 e]) (λe=>by rw[(zJs yJd yJc (λa _=>zQh a) us'').1 e])
  (xJ2 yVm yVl zQj ih sub' sub'')
def SetF (l r:List Fm):Prop:=r.Pairwise (λa b=>yZf a b<0)/\∀f,f∈r↔f∈l
theorem zKn (a:Fm):¬ yZf a a<0:=by rw[(zQj a a).2 rfl];omega
theorem SetF.uniq:∀ {r r':List Fm},r.Pairwise (λa b=>yZf a b<0)->r'.Pairwise (λa b=>yZf a b<0)->(∀x,x∈r↔x∈r')->r=r'
 | [],r',_,_,h=>by
  cases r' with
  | nil=>rfl
  | cons b r'=>exact absurd ((h b).2 (List.mem_cons_self ..)) (by simp)
 | a::r,[],_,_,h=>absurd ((h a).1 (List.mem_cons_self ..)) (by simp)
 | a::r,b::r',h1,h2,h=>by
  have p1:=List.pairwise_cons.1 h1;have p2:=List.pairwise_cons.1 h2;have hab:a=b:=by
   refine Classical.byContradiction λhne=>?_;have ha:a∈r':=by
    rcases List.mem_cons.1 ((h a).1 (List.mem_cons_self ..)) with e|e
    ·exact absurd e hne
    ·exact e
   have hb:b∈r:=by
    rcases List.mem_cons.1 ((h b).2 (List.mem_cons_self ..)) with e|e
    ·exact absurd e.symm hne
    ·exact e
   have h3:=p1.1 b hb;have h4:=p2.1 a ha;rw[zQi] at h4;omega
  subst hab;congr 1;refine SetF.uniq p1.2 p2.2 λx=>?_;constructor
  ·intro hx;rcases List.mem_cons.1 ((h x).1 (List.mem_cons_of_mem _ hx)) with e|e
   ·subst e;exact absurd (p1.1 _ hx) (zKn _)
   ·exact e
  ·intro hx;rcases List.mem_cons.1 ((h x).2 (List.mem_cons_of_mem _ hx)) with e|e
   ·subst e;exact absurd (p2.1 _ hx) (zKn _)
   ·exact e
theorem SetF.one {l r r':List Fm}(h:SetF l r)(h':SetF l r'):r=r':=SetF.uniq h.1 h'.1 λx=>(h.2 x).trans (h'.2 x).symm
end Go.Proofs.Tryz
namespace Go.Proofs.Tryz
open Go Go.Iv Go.Shelf Go.RowKit
set_option maxRecDepth 4000
variable (gl:Nat->Option IV)
theorem zZj (a b:ByteArray)(w:World):Calls prog 249 #[.string a,.string b] w λe w'=>e=.returned (.int .i64 (Lib.compareBytes a.data.toList b.data.toList))/\w'=w:=by
 have t9:prog.underlying 9=some .string:=by kernel_rfl
 have a9:∀w,(isAgg 9).run prog w=.ok false w:=run_isAgg_plain t9 rfl;have t3:prog.underlying 3=some (.int .i64):=by kernel_rfl
 have a3:∀w,(isAgg 3).run prog w=.ok false w:=run_isAgg_plain t3 rfl
 go_enter func249,(show _=_ from rfl)
 go_wp2
 rw[run_callFunc_extern func283 (by kernel_rfl) (by kernel_rfl) (by kernel_rfl) (e:=Extern.BytealgCompare.compare) (by kernel_rfl),Lib.run_compareString];simp only[Result.andThen];rw[Oper.upon_value]
 go_wp2
 go_ret
 exact⟨rfl,rfl⟩
theorem yG5:∀x y:List UInt8,Lib.compareBytes x y=if Op.bytesLess x y=true then -1 else if Op.bytesLess y x=true then 1 else 0
 | [],[]=>by simp[Lib.compareBytes,Op.bytesLess]
 | [],_::_=>by simp[Lib.compareBytes,Op.bytesLess]
 | _::_,[]=>by simp[Lib.compareBytes,Op.bytesLess]
 | a::x,b::y=>by
  have ih:=yG5 x y;unfold Lib.compareBytes Op.bytesLess;by_cases h1:a<b
  ·have h2:¬ b<a:=λh=>UInt8.lt_irrefl _ (UInt8.lt_trans h1 h);simp[h1]
  ·by_cases h2:b<a
   ·have h3:a≠b:=by rintro rfl;exact UInt8.lt_irrefl _ h2
    simp[h1,h2,h3]
   ·have:a=b:=UInt8.le_antisymm (UInt8.not_lt.1 h2) (UInt8.not_lt.1 h1);subst this;simp[h1,ih]
theorem zV3 (a b:ByteArray)(st:ISt):ICall prog gl 249 [.raw (.string a),.raw (.string b)] st (λr st'=>r=.raw (.int .i64 (cmpB a b))/\st'=st):=by
 intro B X rs hg hst hv;have hr:rs=[.string a,.string b]:=by
  match rs,hv with
  | [r,r'],hv=>rw[V.raw_inv (hv.2 0 r _ rfl rfl),V.raw_inv (hv.2 1 r' _ rfl rfl)]
  | [],hv=>cases hv.1
  | [_],hv=>cases hv.1
  | _::_::_::_,hv=>cases hv.1
 subst hr;refine Calls.mono (zZj a b X.w) ?_;rintro e w' ⟨rfl,rfl⟩;refine⟨_,rfl,X,.raw (.int .i64 (cmpB a b)),rfl,hg,Ext.refl X,?_,rfl,hst⟩;rw[yG5];exact .raw _ trivial
theorem xZn (a b:ByteArray)(st:ISt):ICall prog gl 183 [.raw (.string a),.raw (.string b)] st (λr st'=>r=.raw (.int .i64 (cmpB a b))/\st'=st):=by
 refine iI func183 ?_;simp only[go_sem,zE,zA,reduceCtorEq];refine (zV3 gl a b _).mono ?_;rintro _ _ ⟨rfl,rfl⟩;simp only[go_sem];exact yQ0 ⟨rfl,rfl⟩
theorem zVr (a:Nat)(st:ISt):ICall prog gl 248 [.raw (.int .u8 a)] st (λr st'=>r=.raw (.bool false)/\st'=st):=by
 refine iI func248 ?_;simp only[go_sem,zE,reduceCtorEq];exact yQ0 ⟨rfl,rfl⟩
theorem xWe (a b:Nat)(st:ISt):ICall prog gl 182 [.raw (.int .u8 a),.raw (.int .u8 b)] st (λr st'=>r=.raw (.int .i64 (cmpN a b))/\st'=st):=by
 refine iI func182 ?_;simp only[go_sem,zA,reduceCtorEq];refine (zVr gl a _).mono ?_;rintro _ _ ⟨rfl,rfl⟩;simp only[go_sem,zE,zA];refine (zVr gl b _).mono ?_;rintro _ _ ⟨rfl,rfl⟩;unfold cmpN;by_cases h1:a<b
 ·simp only[go_sem,zE,reduceCtorEq,lt_i h1];exact yQ0 ⟨by rw[if_pos h1],rfl⟩
 ·by_cases h2:b<a
  ·simp only[go_sem,zE,reduceCtorEq,yQk h1,lt_i h2];exact yQ0 ⟨by rw[if_neg h1,if_pos h2],rfl⟩
  ·simp only[go_sem,zE,reduceCtorEq,yQk h1,yQk h2];exact yQ0 ⟨by rw[if_neg h1,if_neg h2],rfl⟩
theorem xVg (a:Nat)(st:ISt):ICall prog gl 270 [.raw (.int .i64 a)] st (λr st'=>r=.raw (.bool false)/\st'=st):=by
 refine iI func270 ?_;simp only[go_sem,zE,reduceCtorEq];exact yQ0 ⟨rfl,rfl⟩
theorem xVh (a b:Nat)(st:ISt):ICall prog gl 227 [.raw (.int .i64 a),.raw (.int .i64 b)] st (λr st'=>r=.raw (.int .i64 (cmpN a b))/\st'=st):=by
 refine iI func227 ?_;simp only[go_sem,zA,reduceCtorEq];refine (xVg gl a _).mono ?_;rintro _ _ ⟨rfl,rfl⟩;simp only[go_sem,zE,zA];refine (xVg gl b _).mono ?_;rintro _ _ ⟨rfl,rfl⟩;unfold cmpN;by_cases h1:a<b
 ·simp only[go_sem,zE,reduceCtorEq,lt_i h1];exact yQ0 ⟨by rw[if_pos h1],rfl⟩
 ·by_cases h2:b<a
  ·simp only[go_sem,zE,reduceCtorEq,yQk h1,lt_i h2];exact yQ0 ⟨by rw[if_neg h1,if_pos h2],rfl⟩
  ·simp only[go_sem,zE,reduceCtorEq,yQk h1,yQk h2];exact yQ0 ⟨by rw[if_neg h1,if_neg h2],rfl⟩
theorem xGp {t:Tm}{x:IV}(h:IsTm t x):∃v n tg xs,x=.agg [.raw (.bool v),.raw (.string n),.sl tg xs]:=by
 obtain⟨v,n,us⟩:=t;obtain⟨tg,xs,rfl,_⟩:=h.mk;exact⟨_,_,_,_,rfl⟩
theorem yKz {α:Type}{f:α->α->Int}{g:List α->List α->Int}(g0:g [] []=0)(g1:∀a b l m,g (a::l) (b::m)=lexI (f a b) (g l m)):∀(l m l' m':List α),l.length=m.length->g (l++l') (m++m')=lexI (g l m) (g l' m')
 | [],[],l',m',_=>by rw[g0];simp[lexI]
 | a::l,b::m,l',m',h=>by
  rw[List.cons_append,List.cons_append,g1,g1,yKz g0 g1 l m l' m' (by simpa using h)];unfold lexI;by_cases h1:f a b=0
  ·simp[h1]
  ·simp[h1]
 | [],_::_,_,_,h=>by simp at h
 | _::_,[],_,_,h=>by simp at h
theorem i0 (x:Int)(h:x=0):decide (x=0)=true:=dEt h
theorem i1 (x:Int)(h:¬ x=0):decide (x=0)=false:=dEf h
def CmpT (a:Tm):Prop:=∀(b:Tm) (x y:IV) (_:IsTm a x) (_:IsTm b y) (st:ISt),ICall prog gl 185 [x,y] st (λr st'=>r=.raw (.int .i64 (yKu a b))/\st'=st)
def CmpF (a:Fm):Prop:=∀(b:Fm) (x y:IV) (_:IsFm a x) (_:IsFm b y) (st:ISt),ICall prog gl 135 [x,y] st (λr st'=>r=.raw (.int .i64 (yZf a b))/\st'=st)
theorem xW1 (us:List Tm)(IH:∀a∈us,CmpT gl a)(ws:List Tm)(t t':Tag)(xs ys:List IV)(ht:okEs t 3)(ht':okEs t' 3)(ha:IsTms us xs)(hb:IsTms ws ys)(st:ISt) :
  ICall prog gl 184 [.sl t xs,.sl t' ys,.fn (.func 185) [] []] st (λr st'=>r=.raw (.int .i64 (lenL yXl us ws))/\st'=st):=by
 refine iI func184 ?_;simp only[go_sem,zE,zA,reduceCtorEq,ha.len,hb.len];intro hla hlb;refine (xVh gl us.length ws.length _).mono ?_;rintro _ st ⟨rfl,rfl⟩;unfold lenL;by_cases h0:cmpN us.length ws.length=0
 ·have hlen:=yX6.1 h0;simp only[go_sem,reduceCtorEq,i0 _ h0,ha.len];intro _;refine LoopC.ctr us.length (λk fr st' ds=>yXl (us.take k) (ws.take k)=0/\fr 0=.iv (.sl t xs)/\fr 1=.iv (.sl t' ys)/\fr 2=.iv (.fn (.func 185) [] [])/\fr 19=.iv (.raw (.int .i64 us.length))/\fr 20=.iv (.raw (.int .i64 k))/\st'=st/\ds=[]) ?_ ?_ ?_
  ·simp only[go_sem,zE,reduceCtorEq];exact⟨yJd,rfl⟩
  ·rintro k fr st1 _ hlt ⟨hn,f0,f1,f2,f19,f20,rfl,rfl⟩;obtain⟨a,hka⟩:=yQ2 hlt;obtain⟨b,hkb⟩:=yQ2 (l:=ws) (k:=k) (by omega);obtain⟨x,hkx,hx⟩:=ha.get hka;obtain⟨y,hky,hy⟩:=hb.get hkb;have hcall:=IH a (lMg hka) b x y hx hy st1;have htl:(us.take k).length=(ws.take k).length:=by rw[List.length_take,List.length_take];omega
   obtain⟨x1,x2,x3,x4,rfl⟩:=xGp hx;obtain⟨y1,y2,y3,y4,rfl⟩:=xGp hy;simp only[go_sem,zE,zB,zA,reduceCtorEq,f0,f1,f2,f19,f20,lt_i hlt,yQ1 ht,yQ1 ht',iNn,hkx,hky,fits];refine hcall.mono ?_;rintro _ _ ⟨rfl,rfl⟩;by_cases hc:yKu a b=0
   ·simp only[go_sem,zE,reduceCtorEq,i0 _ hc,f0,f1,f2,f19,f20,yQa hlt (show us.length<=281474976710656 by omega)];rw[yQ5 hka,yQ5 hkb,yKz yJd yJc _ _ _ _ htl,hn,yJc,yJd,hc];simp[lexI]
   ·simp only[go_sem,zE,i1 _ hc];refine yQ0 ⟨?_,rfl⟩;rw[h0];have h2:yXl us ws=yKu a b:=by
     conv=>lhs;rw[<- List.take_append_drop k us,<- List.take_append_drop k ws]
     rw[List.drop_eq_getElem_cons hlt,List.drop_eq_getElem_cons (show k<ws.length by omega),yKz yJd yJc _ _ _ _ htl,hn,yJc,(lGs hka).2,(lGs hkb).2];simp[lexI,hc]
    rw[h2];simp[lexI]
  ·rintro fr st1 _ ⟨hn,f0,f1,f2,f19,f20,rfl,rfl⟩;rw[lTl,show ws.take us.length=ws by rw[hlen,lTl]] at hn;simp only[go_sem,f19,f20,yQk (nLi _)];exact yQ0 ⟨by rw[h0,hn];simp[lexI],rfl⟩
 ·simp only[go_sem,zE,i1 _ h0];exact yQ0 ⟨by simp[lexI,h0],rfl⟩
theorem xZ9 (v:Bool)(n:ByteArray)(us:List Tm)(IH:∀a∈us,CmpT gl a):CmpT gl (.mk v n us):=by
 rintro⟨w,m,ws⟩ x y hx hy st;obtain⟨tx,cx,rfl,htx,hcx⟩:=hx.mk;obtain⟨ty,cy,rfl,hty,hcy⟩:=hy.mk;have hl:=λst=>xW1 gl us IH ws tx ty cx cy htx hty hcx hcy st;simp only[yKu];refine iI func185 ?_;by_cases hv:v=w
 ·subst hv;simp only[go_sem,zE,zA,beq_self_eq_true];refine (xZn gl n m _).mono ?_;rintro _ _ ⟨rfl,rfl⟩;by_cases h0:cmpB n m=0
  ·simp only[go_sem,zE,zA,i0 _ h0];refine (hl _).mono ?_;rintro _ _ ⟨rfl,rfl⟩;simp only[go_sem];exact yQ0 ⟨by simp[lexI,h0,lenL],rfl⟩
  ·simp only[go_sem,zE,i1 _ h0];exact yQ0 ⟨by simp[lexI,h0],rfl⟩
 ·cases v<;>cases w<;>first|exact absurd rfl hv|skip
  all_goals
   simp only[go_sem,zE,reduceCtorEq,beq_eq_false_iff_ne.2 hv];exact yQ0 ⟨by simp,rfl⟩
theorem zKk:∀(k:Nat)(t:Tm),SizeOf.sizeOf t<k->CmpT gl t
 | 0,t,h=>by omega
 | k+1,.mk v n us,h=>xZ9 gl v n us (λa ha=>zKk k a (by
   have:=lSm ha;simp at h;omega))
theorem wZr (t:Tm):CmpT gl t:=zKk gl _ t (Nat.lt_succ_self _)
theorem wKj (us:List Fm)(IH:∀a∈us,CmpF gl a)(ws:List Fm)(t t':Tag)(xs ys:List IV)(ht:okEs t 4)(ht':okEs t' 4)(ha:IsFms us xs)(hb:IsFms ws ys)(st:ISt) :
  ICall prog gl 186 [.sl t xs,.sl t' ys,.fn (.func 135) [] []] st (λr st'=>r=.raw (.int .i64 (lenL yKw us ws))/\st'=st):=by
 refine iI func186 ?_;simp only[go_sem,zE,zA,reduceCtorEq,ha.len,hb.len];intro hla hlb;refine (xVh gl us.length ws.length _).mono ?_;rintro _ st ⟨rfl,rfl⟩;unfold lenL;by_cases h0:cmpN us.length ws.length=0
 ·have hlen:=yX6.1 h0;simp only[go_sem,reduceCtorEq,i0 _ h0,ha.len];intro _;refine LoopC.ctr us.length (λk fr st' ds=>yKw (us.take k) (ws.take k)=0/\fr 0=.iv (.sl t xs)/\fr 1=.iv (.sl t' ys)/\fr 2=.iv (.fn (.func 135) [] [])/\fr 19=.iv (.raw (.int .i64 us.length))/\fr 20=.iv (.raw (.int .i64 k))/\st'=st/\ds=[]) ?_ ?_ ?_
  ·simp only[go_sem,zE,reduceCtorEq];exact⟨yVm,rfl⟩
  ·rintro k fr st1 _ hlt ⟨hn,f0,f1,f2,f19,f20,rfl,rfl⟩;obtain⟨a,hka⟩:=yQ2 hlt;obtain⟨b,hkb⟩:=yQ2 (l:=ws) (k:=k) (by omega);obtain⟨x,hkx,hx⟩:=ha.get hka;obtain⟨y,hky,hy⟩:=hb.get hkb;have hcall:=IH a (lMg hka) b x y hx hy st1;have htl:(us.take k).length=(ws.take k).length:=by rw[List.length_take,List.length_take];omega
   obtain⟨x1,x2,x3,x4,x5,x6,rfl⟩:=hx.agg;obtain⟨y1,y2,y3,y4,y5,y6,rfl⟩:=hy.agg;simp only[go_sem,zE,zB,zA,reduceCtorEq,f0,f1,f2,f19,f20,lt_i hlt,yQ1 ht,yQ1 ht',iNn,hkx,hky,fits];refine hcall.mono ?_;rintro _ _ ⟨rfl,rfl⟩;by_cases hc:yZf a b=0
   ·simp only[go_sem,zE,reduceCtorEq,i0 _ hc,f0,f1,f2,f19,f20,yQa hlt (show us.length<=281474976710656 by omega)];rw[yQ5 hka,yQ5 hkb,yKz yVm yVl _ _ _ _ htl,hn,yVl,yVm,hc];simp[lexI]
   ·simp only[go_sem,zE,i1 _ hc];refine yQ0 ⟨?_,rfl⟩;rw[h0];have h2:yKw us ws=yZf a b:=by
     conv=>lhs;rw[<- List.take_append_drop k us,<- List.take_append_drop k ws]
     rw[List.drop_eq_getElem_cons hlt,List.drop_eq_getElem_cons (show k<ws.length by omega),yKz yVm yVl _ _ _ _ htl,hn,yVl,(lGs hka).2,(lGs hkb).2];simp[lexI,hc]
    rw[h2];simp[lexI]
  ·rintro fr st1 _ ⟨hn,f0,f1,f2,f19,f20,rfl,rfl⟩;rw[lTl,show ws.take us.length=ws by rw[hlen,lTl]] at hn;simp only[go_sem,f19,f20,yQk (nLi _)];exact yQ0 ⟨by rw[h0,hn];simp[lexI],rfl⟩
 ·simp only[go_sem,zE,i1 _ h0];exact yQ0 ⟨by simp[lexI,h0],rfl⟩
theorem xZa (o:Nat)(n:ByteArray)(us:List Tm)(sub:List Fm)(IH:∀a∈sub,CmpF gl a):CmpF gl (.mk o n us sub):=by
 rintro⟨w,m,ws,sub'⟩ x y hx hy st;obtain⟨t1,x1,t2,x2,rfl,_,e1,i1',e2,i2⟩:=hx.mk;obtain⟨t3,x3,t4,x4,rfl,_,e3,i3,e4,i4⟩:=hy.mk;have hl1:=λst=>xW1 gl us (λa _=>wZr gl a) ws t1 t3 x1 x3 e1 e3 i1' i3 st;have hl2:=λst=>wKj gl sub IH sub' t2 t4 x2 x4 e2 e4 i2 i4 st;simp only[yZf];refine iI func135 ?_;simp only[go_sem,zE,zA];refine (xWe gl o w _).mono ?_;rintro _ _ ⟨rfl,rfl⟩;by_cases h0:cmpN o w=0
 ·simp only[go_sem,zE,zA,i0 _ h0];refine (xZn gl n m _).mono ?_;rintro _ _ ⟨rfl,rfl⟩;by_cases h1:cmpB n m=0
  ·simp only[go_sem,zE,zA,i0 _ h1];refine (hl1 _).mono ?_;rintro _ _ ⟨rfl,rfl⟩;by_cases h2:lenL yXl us ws=0
   ·simp only[go_sem,zE,zA,i0 _ h2];refine (hl2 _).mono ?_;rintro _ _ ⟨rfl,rfl⟩;simp only[go_sem];refine yQ0 ⟨?_,rfl⟩;unfold lenL at h2 ⊢;rw[h0,h1,h2];simp[lexI]
   ·simp only[go_sem,zE,i1 _ h2];refine yQ0 ⟨?_,rfl⟩;unfold lenL at h2 ⊢;rw[h0,h1];generalize lexI (cmpN us.length ws.length) (yXl us ws)=q at h2 ⊢;simp[lexI,h2]
  ·simp only[go_sem,zE,i1 _ h1];exact yQ0 ⟨by rw[h0];simp[lexI,h1],rfl⟩
 ·simp only[go_sem,zE,i1 _ h0];exact yQ0 ⟨by simp[lexI,h0],rfl⟩
theorem zKm:∀(k:Nat)(t:Fm),SizeOf.sizeOf t<k->CmpF gl t
 | 0,t,h=>by omega
 | k+1,.mk o n us sub,h=>xZa gl o n us sub (λa ha=>zKm k a (by
   have:=lSm ha;simp at h;omega))
theorem xZb (t:Fm):CmpF gl t:=zKm gl _ t (Nat.lt_succ_self _)
theorem xUb (a b:Fm)(x y:IV)(hx:IsFm a x)(hy:IsFm b y)(st:ISt):ICall prog gl 137 [x,y] st (λr st'=>r=.raw (.bool (decide (yZf a b=0)))/\st'=st):=by
 have hc:=λst=>xZb gl a b x y hx hy st;obtain⟨x1,x2,x3,x4,x5,x6,rfl⟩:=hx.agg;obtain⟨y1,y2,y3,y4,y5,y6,rfl⟩:=hy.agg;refine iI func137 ?_;simp only[go_sem,zE,zA,zL];refine (hc _).mono ?_;rintro _ _ ⟨rfl,rfl⟩;simp only[go_sem];exact yQ0 ⟨rfl,rfl⟩
end Go.Proofs.Tryz
namespace Go.Iv
open Go
@[go_sem] theorem vJi (P:Program)(T:TypeId)(a b:ByteArray):binI P T .gtr (.string a) (.string b)=some (.bool (!(Op.bytesLess a.data.toList b.data.toList || decide (a=b)))):=(rfl)
end Go.Iv
namespace Go.Proofs.Tryz
open Go Go.Iv
set_option maxRecDepth 4000
variable (gl:Nat->Option IV)
theorem wJn {a b:ByteArray}(h:Op.bytesLess a.data.toList b.data.toList=false):(!(false || decide (a=b)))=Op.bytesLess b.data.toList a.data.toList:=by
 have he:=(yJj a).eq b;unfold cmpB at he;rw[h] at he;by_cases hab:a=b
 ·have:=he.2 hab;subst hab;rw[h];simp
 ·cases hb:Op.bytesLess b.data.toList a.data.toList
  ·rw[hb] at he;simp at he;exact absurd he hab
  ·simp[hab]
theorem xUd (a b:ByteArray)(st:ISt):ICall prog gl 190 [.raw (.string a),.raw (.string b)] st (λr st'=>r=.raw (.int .i64 (cmpB a b))/\st'=st):=by
 unfold cmpB;refine iI func190 ?_;cases h:Op.bytesLess a.data.toList b.data.toList
 ·have hn:=wJn h;simp only[go_sem,zE,reduceCtorEq,h,hn];cases h':Op.bytesLess b.data.toList a.data.toList
  ·simp only[go_sem,reduceCtorEq];exact yQ0 ⟨by simp,rfl⟩
  ·simp only[go_sem];exact yQ0 ⟨by simp,rfl⟩
 ·simp only[go_sem,zE,reduceCtorEq,h];exact yQ0 ⟨by simp,rfl⟩
def RCT (a:Tm):Prop:=∀(b:Tm) (x y:IV) (_:IsTm a x) (_:IsTm b y) (st:ISt),ICall prog gl 250 [x,y] st (λr st'=>r=.raw (.int .i64 (yKu a b))/\st'=st)
def RCF (a:Fm):Prop:=∀(b:Fm) (x y:IV) (_:IsFm a x) (_:IsFm b y) (st:ISt),ICall prog gl 140 [x,y] st (λr st'=>r=.raw (.int .i64 (yZf a b))/\st'=st)
theorem xKr (us:List Tm)(IH:∀a∈us,RCT gl a)(ws:List Tm)(t t':Tag)(xs ys:List IV)(ht:okEs t 3)(ht':okEs t' 3)(ha:IsTms us xs)(hb:IsTms ws ys)(st:ISt) :
  ICall prog gl 191 [.sl t xs,.sl t' ys] st (λr st'=>r=.raw (.int .i64 (lenL yXl us ws))/\st'=st):=by
 unfold lenL cmpN;refine iI func191 ?_;simp only[go_sem,zE,reduceCtorEq,ha.len,hb.len];intro hla hlb;by_cases h1:us.length<ws.length
 ·simp only[go_sem,lt_i h1];exact yQ0 ⟨by simp[h1,lexI],rfl⟩
 simp only[go_sem,zE,reduceCtorEq,show decide (((us.length:Nat):Int)<ws.length)=false from dEf (by omega),ha.len,hb.len];intros;by_cases h2:ws.length<us.length
 ·simp only[go_sem,lt_i h2];exact yQ0 ⟨by simp[h1,h2,lexI],rfl⟩
 simp only[go_sem,show decide (((ws.length:Nat):Int)<us.length)=false from dEf (by omega)];rw[if_neg h1,if_neg h2];have hlen:us.length=ws.length:=by omega
 refine LoopC.ctr us.length (λk fr st' ds=>yXl (us.take k) (ws.take k)=0/\fr 0=.iv (.sl t xs)/\fr 1=.iv (.sl t' ys)/\fr 5=.iv (.raw (.int .i64 k))/\st'=st/\ds=[]) ?_ ?_ ?_
 ·simp only[go_sem,zE,reduceCtorEq];exact⟨yJd,rfl⟩
 ·rintro k fr st1 _ hlt ⟨hn,f0,f1,f5,rfl,rfl⟩;obtain⟨a,hka⟩:=yQ2 hlt;obtain⟨b,hkb⟩:=yQ2 (l:=ws) (k:=k) (by omega);obtain⟨x,hkx,hx⟩:=ha.get hka;obtain⟨y,hky,hy⟩:=hb.get hkb;have hcall:=IH a (lMg hka) b x y hx hy st1;have htl:(us.take k).length=(ws.take k).length:=by rw[List.length_take,List.length_take];omega
  have htake:yXl us ws=lexI (yXl (us.take k) (ws.take k)) (lexI (yKu a b) (yXl (us.drop (k+1)) (ws.drop (k+1)))):=by
   conv=>lhs;rw[<- List.take_append_drop k us,<- List.take_append_drop k ws]
   rw[List.drop_eq_getElem_cons hlt,List.drop_eq_getElem_cons (show k<ws.length by omega),yKz yJd yJc _ _ _ _ htl,yJc,(lGs hka).2,(lGs hkb).2]
  have hnext:yKu a b=0->yXl (us.take (k+1)) (ws.take (k+1))=0:=λhc=>by
   rw[yQ5 hka,yQ5 hkb,yKz yJd yJc _ _ _ _ htl,hn,yJc,yJd,hc];simp[lexI]
  rw[hn] at htake;obtain⟨x1,x2,x3,x4,rfl⟩:=xGp hx;obtain⟨y1,y2,y3,y4,rfl⟩:=xGp hy;simp only[go_sem,zE,zB,zA,reduceCtorEq,f0,f1,f5,ha.len,lt_i hlt,yQ1 ht,yQ1 ht',iNn,hkx,hky,fits];intros;refine hcall.mono ?_;rintro _ _ ⟨rfl,rfl⟩;by_cases hc:yKu a b=0
  ·simp only[go_sem,zE,reduceCtorEq,i0 _ hc,f0,f1,f5,yQa hlt (show us.length<=281474976710656 by omega)];exact hnext hc
  ·simp only[go_sem,zE,i1 _ hc];exact yQ0 ⟨by rw[htake];simp[lexI,hc],rfl⟩
 ·rintro fr st1 _ ⟨hn,f0,f1,f5,rfl,rfl⟩;rw[lTl,show ws.take us.length=ws by rw[hlen,lTl]] at hn;simp only[go_sem,zE,reduceCtorEq,f0,f5,ha.len,yQk (nLi _)];intros;exact yQ0 ⟨by rw[hn];simp[lexI],rfl⟩
theorem zYj (v:Bool)(n:ByteArray)(us:List Tm)(IH:∀a∈us,RCT gl a):RCT gl (.mk v n us):=by
 rintro⟨w,m,ws⟩ x y hx hy st;obtain⟨tx,cx,rfl,htx,hcx⟩:=hx.mk;obtain⟨ty,cy,rfl,hty,hcy⟩:=hy.mk;have hl:=λst=>xKr gl us IH ws tx ty cx cy htx hty hcx hcy st;simp only[yKu];refine iI func250 ?_;by_cases hv:v=w
 ·subst hv;by_cases h0:n=m
  ·have hz:=((yJj n).eq m).2 h0;simp only[go_sem,zE,zA,beq_self_eq_true,dEt h0];refine (hl _).mono ?_;rintro _ _ ⟨rfl,rfl⟩;simp only[go_sem];exact yQ0 ⟨by simp[lexI,hz,lenL],rfl⟩
  ·have hz:¬ cmpB n m=0:=λh=>h0 (((yJj n).eq m).1 h);simp only[go_sem,zE,zA,beq_self_eq_true,dEf h0];refine (xUd gl n m _).mono ?_;rintro _ _ ⟨rfl,rfl⟩;simp only[go_sem];exact yQ0 ⟨by simp[lexI,hz],rfl⟩
 ·cases v<;>cases w<;>first|exact absurd rfl hv|skip
  all_goals
   simp only[go_sem,zE,reduceCtorEq,beq_eq_false_iff_ne.2 hv];exact yQ0 ⟨by simp,rfl⟩
theorem zZs:∀(k:Nat)(t:Tm),SizeOf.sizeOf t<k->RCT gl t
 | 0,t,h=>by omega
 | k+1,.mk v n us,h=>zYj gl v n us (λa ha=>zZs k a (by
   have:=lSm ha;simp at h;omega))
theorem xY2 (t:Tm):RCT gl t:=zZs gl _ t (Nat.lt_succ_self _)
theorem zYk (o:Nat)(n:ByteArray)(us:List Tm)(sub:List Fm)(IH:∀a∈sub,RCF gl a):RCF gl (.mk o n us sub):=by
 rintro⟨w,m,ws,sub'⟩ x y hx hy st;obtain⟨t1,x1,t2,x2,rfl,_,e1,i1',ht,ha⟩:=hx.mk;obtain⟨t3,x3,t4,x4,rfl,_,e3,i3,ht',hb⟩:=hy.mk;have hl1:=λst=>xKr gl us (λa _=>xY2 gl a) ws t1 t3 x1 x3 e1 e3 i1' i3 st;simp only[yZf];unfold cmpN;refine iI func140 ?_;by_cases q1:o<w
 ·simp only[go_sem,zE,lt_i q1];exact yQ0 ⟨by simp[q1,lexI],rfl⟩
 simp only[go_sem,zE,show decide (((o:Nat):Int)<w)=false from dEf (by omega)];by_cases q2:w<o
 ·simp only[go_sem,lt_i q2];exact yQ0 ⟨by simp[q1,q2,lexI],rfl⟩
 rw[if_neg q1,if_neg q2];simp only[go_sem,zE,show decide (((w:Nat):Int)<o)=false from dEf (by omega)];by_cases h0:n=m
 case neg =>
  have hz:¬ cmpB n m=0:=λh=>h0 (((yJj n).eq m).1 h);simp only[go_sem,zE,zA,dEf h0];refine (xUd gl n m _).mono ?_;rintro _ _ ⟨rfl,rfl⟩;simp only[go_sem];exact yQ0 ⟨by simp[lexI,hz],rfl⟩
 have hz:=((yJj n).eq m).2 h0;rw[hz];simp only[go_sem,zE,zA,dEt h0];refine (hl1 _).mono ?_;rintro _ st ⟨rfl,rfl⟩;unfold lenL cmpN;generalize lexI (if us.length<ws.length then -1 else if ws.length<us.length then 1 else 0) (yXl us ws)=c1;by_cases h1:c1=0
 case neg =>
  simp only[go_sem,zE,i1 _ h1];exact yQ0 ⟨by simp[lexI,h1],rfl⟩
 subst h1;simp only[go_sem,zE,ha.len,hb.len,decide_true];intro hla hlb;by_cases h3:sub.length<sub'.length
 ·simp only[go_sem,lt_i h3];exact yQ0 ⟨by simp[h3,lexI],rfl⟩
 simp only[go_sem,zE,show decide (((sub.length:Nat):Int)<sub'.length)=false from dEf (by omega),ha.len,hb.len];intros;by_cases h4:sub'.length<sub.length
 ·simp only[go_sem,lt_i h4];exact yQ0 ⟨by simp[h3,h4,lexI],rfl⟩
 rw[if_neg h3,if_neg h4];simp only[go_sem,show decide (((sub'.length:Nat):Int)<sub.length)=false from dEf (by omega)];have hlen:sub.length=sub'.length:=by omega
 refine LoopC.ctr sub.length (λk fr st' ds=>yKw (sub.take k) (sub'.take k)=0/\fr 2=.box [.raw (.int .u8 o),.raw (.string n),.sl t1 x1,.sl t2 x2]/\fr 3=.box [.raw (.int .u8 w),.raw (.string m),.sl t3 x3,.sl t4 x4]/\fr 6=.iv (.raw (.int .i64 k))/\st'=st/\ds=[]) ?_ ?_ ?_
 ·simp only[go_sem,zE];exact⟨yVm,rfl⟩
 ·rintro k fr st1 _ hlt ⟨hn,f2,f3,f6,rfl,rfl⟩;obtain⟨a,hka⟩:=yQ2 hlt;obtain⟨b,hkb⟩:=yQ2 (l:=sub') (k:=k) (by omega);obtain⟨x,hkx,hx⟩:=ha.get hka;obtain⟨y,hky,hy⟩:=hb.get hkb;have hcall:=IH a (lMg hka) b x y hx hy st1;have htl:(sub.take k).length=(sub'.take k).length:=by rw[List.length_take,List.length_take];omega
  have htake:yKw sub sub'=lexI (yKw (sub.take k) (sub'.take k)) (lexI (yZf a b) (yKw (sub.drop (k+1)) (sub'.drop (k+1)))):=by
   conv=>lhs;rw[<- List.take_append_drop k sub,<- List.take_append_drop k sub']
   rw[List.drop_eq_getElem_cons hlt,List.drop_eq_getElem_cons (show k<sub'.length by omega),yKz yVm yVl _ _ _ _ htl,yVl,(lGs hka).2,(lGs hkb).2]
  have hnext:yZf a b=0->yKw (sub.take (k+1)) (sub'.take (k+1))=0:=λhc=>by
   rw[yQ5 hka,yQ5 hkb,yKz yVm yVl _ _ _ _ htl,hn,yVl,yVm,hc];simp[lexI]
  rw[hn] at htake;obtain⟨x1',x2',x3',x4',x5',x6',rfl⟩:=hx.agg;obtain⟨y1',y2',y3',y4',y5',y6',rfl⟩:=hy.agg;simp only[go_sem,zE,zB,zA,f2,f3,f6,ha.len,lt_i hlt,yQ1 ht,yQ1 ht',iNn,hkx,hky,fits];intros;refine hcall.mono ?_;rintro _ _ ⟨rfl,rfl⟩;by_cases hc:yZf a b=0
  ·simp only[go_sem,zE,i0 _ hc,f2,f3,f6,yQa hlt (show sub.length<=281474976710656 by omega)];exact hnext hc
  ·simp only[go_sem,zE,i1 _ hc];exact yQ0 ⟨by rw[htake];simp[lexI,hc],rfl⟩
 ·rintro fr st1 _ ⟨hn,f2,f3,f6,rfl,rfl⟩;rw[lTl,show sub'.take sub.length=sub' by rw[hlen,lTl]] at hn;simp only[go_sem,zE,f2,f6,ha.len,yQk (nLi _)];intros;exact yQ0 ⟨by rw[hn];simp[lexI],rfl⟩
theorem zZt:∀(k:Nat)(t:Fm),SizeOf.sizeOf t<k->RCF gl t
 | 0,t,h=>by omega
 | k+1,.mk o n us sub,h=>zYk gl o n us sub (λa ha=>zZt k a (by
   have:=lSm ha;simp at h;omega))
theorem xY3 (t:Fm):RCF gl t:=zZt gl _ t (Nat.lt_succ_self _)
end Go.Proofs.Tryz
namespace Go.Proofs
open Go.Shelf
def Tryz.sortFL_ren:Go.Shelf.Ren:=⟨λ| 6=>134|15=>181|14=>180|28=>246|29=>247|20=>238|21=>239|22=>240|23=>241|24=>242|25=>243|26=>244|27=>245|46=>278|47=>279|48=>280|49=>281|50=>282|57=>312|n=>n,λ| 22=>22|24=>27|25=>156|3=>3|39=>194|0=>0|53=>245|55=>247|4=>4|46=>238|45=>237|50=>242|5=>5|9=>9|66=>274|70=>278|76=>293|77=>263|n=>n,λ| n=>n⟩
theorem Tryz.sortFL:Go.Proofs.SlLaysF0.n6 Tryz.prog Tryz.sortFL_ren:={
 mixed:=by kernel_rfl
 f6:=⟨Tryz.f134.name,by decide,Tryz.func134.trans (congrArg some (by kernel_rfl))⟩
 f14:=⟨Tryz.f180.name,by decide,Tryz.func180.trans (congrArg some (by kernel_rfl))⟩
 f15:=Tryz.func181.trans (congrArg some (by kernel_rfl))
 f20:=⟨Tryz.f238.name,by decide,Tryz.func238.trans (congrArg some (by kernel_rfl))⟩
 f21:=⟨Tryz.f239.name,by decide,Tryz.func239.trans (congrArg some (by kernel_rfl))⟩
 f22:=⟨Tryz.f240.name,by decide,Tryz.func240.trans (congrArg some (by kernel_rfl))⟩
 f23:=⟨Tryz.f241.name,by decide,Tryz.func241.trans (congrArg some (by kernel_rfl))⟩
 f24:=⟨Tryz.f242.name,by decide,Tryz.func242.trans (congrArg some (by kernel_rfl))⟩
 f25:=⟨Tryz.f243.name,by decide,Tryz.func243.trans (congrArg some (by kernel_rfl))⟩
 f26:=⟨Tryz.f244.name,by decide,Tryz.func244.trans (congrArg some (by kernel_rfl))⟩
 f27:=⟨Tryz.f245.name,by decide,Tryz.func245.trans (congrArg some (by kernel_rfl))⟩
 f28:=Tryz.func246.trans (congrArg some (by kernel_rfl))
 f29:=Tryz.func247.trans (congrArg some (by kernel_rfl))
 f46:=⟨Tryz.f278.name,by decide,Tryz.func278.trans (congrArg some (by kernel_rfl))⟩
 f47:=Tryz.func279.trans (congrArg some (by kernel_rfl))
 f48:=Tryz.func280.trans (congrArg some (by kernel_rfl))
 f49:=⟨Tryz.f281.name,by decide,Tryz.func281.trans (congrArg some (by kernel_rfl))⟩
 f50:=⟨Tryz.f282.name,by decide,Tryz.func282.trans (congrArg some (by kernel_rfl))⟩
 f57:=⟨Tryz.f312.name,by decide,Tryz.func312.trans (congrArg some (by kernel_rfl))⟩
 t0:=Tryz.underlying0
 a0:=Tryz.isAgg0
 z0:=Tryz.sizeOf0
 v0:=Tryz.zeroValue0
 t3:=Tryz.underlying3
 a3:=Tryz.isAgg3
 z3:=Tryz.sizeOf3
 v3:=Tryz.zeroValue3
 t4:=Tryz.underlying4
 a4:=Tryz.isAgg4
 z4:=Tryz.sizeOf4
 v4:=Tryz.zeroValue4
 t5:=Tryz.underlying5
 a5:=Tryz.isAgg5
 z5:=Tryz.sizeOf5
 v5:=Tryz.zeroValue5
 t9:=Tryz.underlying9
 a9:=Tryz.isAgg9
 z9:=Tryz.sizeOf9
 v9:=Tryz.zeroValue9
 t22:=Tryz.underlying22
 a22:=Tryz.isAgg22
 z22:=Tryz.sizeOf22
 v22:=Tryz.zeroValue22
 t25:=Tryz.underlying156
 a25:=Tryz.isAgg156
 z25:=Tryz.sizeOf156
 v25:=Tryz.zeroValue156
 t39:=Tryz.underlying194
 a39:=Tryz.isAgg194
 z39:=Tryz.sizeOf194
 v39:=Tryz.zeroValue194
 t45:=Tryz.underlying237
 a45:=Tryz.isAgg237
 z45:=Tryz.sizeOf237
 v45:=Tryz.zeroValue237
 t46:=Tryz.underlying238
 a46:=Tryz.isAgg238
 z46:=Tryz.sizeOf238
 v46:=Tryz.zeroValue238
 t50:=Tryz.underlying242
 a50:=Tryz.isAgg242
 z50:=Tryz.sizeOf242
 v50:=Tryz.zeroValue242
 t53:=Tryz.underlying245
 a53:=Tryz.isAgg245
 z53:=Tryz.sizeOf245
 v53:=Tryz.zeroValue245
 t55:=Tryz.underlying247
 a55:=Tryz.isAgg247
 z55:=Tryz.sizeOf247
 v55:=Tryz.zeroValue247
 t66:=Tryz.underlying274
 a66:=Tryz.isAgg274
 z66:=Tryz.sizeOf274
 v66:=Tryz.zeroValue274
 t70:=Tryz.underlying278
 a70:=Tryz.isAgg278
 z70:=Tryz.sizeOf278
 v70:=Tryz.zeroValue278
 t76:=Tryz.underlying293
 a76:=Tryz.isAgg293
 z76:=Tryz.sizeOf293
 v76:=Tryz.zeroValue293
 t77:=Tryz.underlying263
 a77:=Tryz.isAgg263
 z77:=Tryz.sizeOf263
 v77:=Tryz.zeroValue263 }
namespace Tryz
open Go Go.Iv
theorem xKi:tyI Tryz.prog (Tryz.sortFL_ren.t 24)=some (true,4):=by kernel_rfl
theorem xU1 (w:World):(isAgg (Tryz.sortFL_ren.t 24)).run Tryz.prog w=.ok true w:=(yXa xKi w).1
theorem xWn (w:World):(Go.sizeOf (Tryz.sortFL_ren.t 24)).run Tryz.prog w=.ok 4 w:=(yXa xKi w).2
end Tryz
end Go.Proofs
namespace Go.Proofs.Tryz
set_option maxRecDepth 4000
open Go Go.Iv Go.Sort Go.Shelf Go.RowKit
variable (gl:Nat->Option IV)
section
variable {α:Type} [Inhabited α]{enc:α->List Value}{k:Nat}
theorem xQl (hk:∀x,(enc x).length=k)(h0:0<k):∀(l:List α) (t:Nat),t<l.length*k->(l.flatMap enc)[t]?=some ((enc l[t / k]!)[t%k]!)
 | [],t,h=>by simp at h
 | a::l,t,h=>by
  rw[List.flatMap_cons];by_cases ht:t<k
  ·rw[List.getElem?_append_left (by rw[hk];exact ht),Nat.div_eq_of_lt ht,Nat.mod_eq_of_lt ht];rw[List.getElem?_eq_getElem (by rw[hk];exact ht)];simp only[List.getElem!_cons_zero];rw[getElem!_pos _ t (by rw[hk];exact ht)]
  ·obtain⟨s,rfl⟩:∃s,t=s+k:=⟨t-k,by omega⟩
   rw[List.getElem?_append_right (by rw[hk];omega),hk,Nat.add_sub_cancel,xQl hk h0 l s (by rw[List.length_cons,Nat.succ_mul] at h;omega),Nat.add_div_right _ h0,Nat.add_mod_right];simp
theorem xQk (hk:∀x,(enc x).length=k):∀l:List α,(l.flatMap enc).length=l.length*k
 | []=>by simp
 | a::l=>by rw[List.flatMap_cons,lLa,hk,xQk hk l,List.length_cons,Nat.succ_mul,Nat.add_comm]
theorem zWn (hk:∀x,(enc x).length=k)(h0:0<k)(d:Array α):(flatK enc k d).toList=d.toList.flatMap enc:=by
 have hl:(d.toList.flatMap enc).length=d.size*k:=by rw[xQk hk,Array.length_toList]
 apply List.ext_getElem?;intro t;by_cases ht:t<d.size*k
 ·rw[xQl hk h0 d.toList t (by simpa using ht)];have h1:=get_flatK enc k d t ht;rw[getElem!_pos _ t (by rw[size_flatK];exact ht)] at h1;rw[Array.getElem?_toList,Array.getElem?_eq_getElem (by rw[size_flatK];exact ht),h1];congr 3;rw[Array.getElem!_toList]
 ·rw[List.getElem?_eq_none (show (flatK enc k d).toList.length<=t by rw[Array.length_toList,size_flatK];omega),List.getElem?_eq_none (show (d.toList.flatMap enc).length<=t by rw[hl];omega)]
end
section
variable {α:Type} [Inhabited α]{enc:α->List Value}{k:Nat}{w:World}{b m:Nat}{dk:Array α}{os:Array Obj}
theorem xKf {c:Array Value}{T:TypeId}{f:Nat×Nat}(hh:w.heap[b]?=some (.cells c T f)):(sortWorldK enc k w b 0 m dk os).heap[b]?=some (.cells (putCells id 0 (flatK enc k dk) c) T f):=by
 have hb:=(Array.getElem?_eq_some_iff.1 hh).1;unfold sortWorldK;rw[heap_grow_old _ _ (by show b<(putRowK enc k _ b 0 dk).heap.size;simpa[putRowK] using hb)];show (w.heap.modify b (onCells (putCells id 0 (flatK enc k dk))))[b]?=_;rw[Array.getElem?_modify,if_pos rfl,hh];rfl
theorem yWn {j:Nat}(hj:j≠b)(hlt:j<w.heap.size):(sortWorldK enc k w b 0 m dk os).heap[j]?=w.heap[j]?:=by
 unfold sortWorldK;rw[heap_grow_old _ _ (by show j<(putRowK enc k _ b 0 dk).heap.size;simpa[putRowK] using hlt)];show (w.heap.modify b (onCells (putCells id 0 (flatK enc k dk))))[j]?=_;rw[Array.getElem?_modify,if_neg (λh=>hj h.symm)]
theorem zYo {F c:Array Value}(h:F.size<=c.size):(putCells id 0 F c).toList=F.toList++c.toList.drop F.size:=by
 apply List.ext_getElem?;intro i;unfold putCells;rw[Array.getElem?_toList,Array.getElem?_mapIdx];by_cases hi:i<F.size
 ·rw[List.getElem?_append_left (by simpa using hi),Array.getElem?_toList,Array.getElem?_eq_getElem (show i<c.size by omega),Array.getElem?_eq_getElem hi];simp only[Option.map_some,id,Nat.zero_add,Nat.zero_le,true_and,if_pos hi,Nat.sub_zero];rw[getElem!_pos F i hi]
 ·rw[List.getElem?_append_right (by simpa using hi),List.getElem?_drop,Array.length_toList,Array.getElem?_toList];rw[show F.size+(i-F.size)=i by omega];cases hc:c[i]? with
  | none=>rfl
  | some v=>simp only[Option.map_some,Nat.zero_add,Nat.zero_le,true_and,if_neg hi]
end
theorem xJu {X X':WS}(he:Ext X X')(hst:∀b,X.st b=none)(hd:X.w.drawn<=X'.w.drawn):∃q os,X'.w=grow (X.w.drewN q) os:=by
 refine⟨X'.w.drawn-X.w.drawn,X'.w.heap.extract X.w.heap.size X'.w.heap.size,?_⟩;have h1:X'.w.heap=X.w.heap++X'.w.heap.extract X.w.heap.size X'.w.heap.size:=by
  apply Array.ext_getElem?;intro i;by_cases hi:i<X.w.heap.size
  ·rw[Array.getElem?_append_left hi];exact (he.keep i hi (hst i)).1
  ·rw[Array.getElem?_append_right (by omega),Array.getElem?_extract];have:=he.size;split
   ·congr 1;omega
   ·rw[Array.getElem?_eq_none (by omega)]
 have h2:=he.os;have h3:=he.tape;have h4:=he.output;generalize X'.w=w' at *;generalize X.w=w at *;obtain⟨hp,tp,dr,os,out⟩:=w';obtain⟨hp1,tp1,dr1,os1,out1⟩:=w;simp only at h1 h2 h3 h4 hd;subst h2 h3 h4;simp only[grow,World.drewN,World.mk.injEq,and_true,true_and];exact⟨h1,by omega⟩
theorem xG5 (g:FuncId)(hent:∀args w,(callFunc g args).run prog w=.ok (.enter g args) w)(xs rest:List IV)(b cap:Nat)(st:ISt)(hne:xs≠[])(hlen:xs.length<=140737488355328)(hx:∀x∈xs,fits true 4 x=true)(hb:st b=some (.box (xs.flatMap IV.cells++rest)))(cf:IV->IV->Int)
  (h1:∀x∈xs,¬ cf x x<0) (h2:∀x∈xs,∀y∈xs,∀z∈xs,cf x y<0->cf y z<0->cf x z<0) (h3:∀x∈xs,∀y∈xs,∀z∈xs,¬ cf x y<0->¬ cf y z<0->¬ cf x z<0)
  (hcmp:∀x∈xs,∀y∈xs,ICall prog (λ_=>none) g [x,y] (λ_=>none) (λr _=>r=.raw (.int .i64 (cf x y)))) :
  ICall prog gl 134 [.raw (.slice (some ⟨b,0,none⟩) xs.length cap),.fn (.func g) [] []] st
   (λr st'=>r=.tup []/\∃ys:List IV,ys.Perm xs/\ys.Pairwise (λx y=>¬ cf y x<0)/\st'=st.put b (some (.box (ys.flatMap IV.cells++rest)))):=by
 intro B X rs hg hst hv;subst hst;obtain⟨r0,r1,rfl⟩:∃r0 r1,rs=[r0,r1]:=by
  match rs,hv with
  | [a,b],_=>exact⟨a,b,rfl⟩
  | [],hv=>cases hv.1
  | [_],hv=>cases hv.1
  | _::_::_::_,hv=>cases hv.1
 obtain rfl:=V.raw_inv (hv.2 0 r0 _ rfl rfl);obtain⟨f1,f2,rfl,hf1,hf2⟩:=V.fn_inv (hv.2 1 r1 _ rfl rfl);obtain rfl:f1=[]:=List.eq_nil_of_length_eq_zero hf1.1;obtain rfl:f2=[]:=List.eq_nil_of_length_eq_zero hf2.1;obtain⟨hL,c,T,hh,hvl⟩:=hg.ok b _ hb;have hblk:b<X.w.heap.size:=hg.lt hb;have hcells:∀x∈xs,x.cells.length=4:=λx hxm=>(yXo (hx x hxm)).2.1;have hcl:c.size=xs.length*4+rest.length:=by
  have:=hvl.1;rw[lLa,yQu xs hcells,Array.length_toList] at this;exact this
 -- the elements
 let α:={ p:IV×List Value // p.1∈xs/\VL B X.L X.w p.2 p.1.cells }
 have hel:∀(l:List IV) (vs:List Value),(∀x∈l,x∈xs)->VL B X.L X.w vs (l.flatMap IV.cells)->∃d:List α,d.map (λa=>a.1.1)=l/\d.flatMap (λa=>a.1.2)=vs:=by
  intro l
  induction l with
  | nil =>
   intro vs _ hvs;exact⟨[],rfl,(List.eq_nil_of_length_eq_zero hvs.1).symm⟩
  | cons x l ih =>
   intro vs hm hvs;have hx4:=hcells x (hm x (by simp));have hlv:vs.length=4+(l.flatMap IV.cells).length:=by rw[hvs.1,List.flatMap_cons,lLa,hx4]
   have ha:VL B X.L X.w (vs.take 4) x.cells:=by
    have:=hvs.take 4
    rwa [List.flatMap_cons,List.take_left' hx4] at this
   have hbv:VL B X.L X.w (vs.drop 4) (l.flatMap IV.cells):=by
    have:=hvs.drop 4
    rwa [List.flatMap_cons,List.drop_left' hx4] at this
   obtain⟨d,hd1,hd2⟩:=ih (vs.drop 4) (λy hy=>hm y (by simp[hy])) hbv;exact⟨⟨(x,vs.take 4),hm x (by simp),ha⟩::d,by simp[hd1],by simp[hd2]⟩
 obtain⟨d,hd1,hd2⟩:=hel xs (c.toList.take (xs.length*4)) (λ_ h=>h) (by
  have:=hvl.take (xs.length*4)
  rwa [List.take_left' (yQu xs hcells)] at this)
 have hdl:d.length=xs.length:=by rw[<- hd1,List.length_map]
 have hdn:d≠[]:=by rintro rfl;exact hne (List.eq_nil_of_length_eq_zero hdl.symm)
 letI:Inhabited α:=⟨d.head hdn⟩
 let enc:α->List Value:=λa=>a.1.2
 have hk:∀a:α,(enc a).length=4:=λa=>by rw[a.2.2.1];exact hcells _ a.2.1
 have hone:∀(a:α),∀v∈enc a,v.oneCell'=true:=λa v hv=>zQn (C:=⟨prog,gl,B⟩) a.2.2 (yXo (hx _ a.2.1)).2.2.1 v hv
 let cf':α->α->Int:=λa a'=>cf a.1.1 a'.1.1
 have hO:SWO (ltOf cf'):=⟨λa=>by simp only[ltOf,decide_eq_false_iff_not];exact h1 _ a.2.1,λa a' a'' p q=>by
   simp only[ltOf,dTe] at p q ⊢;exact h2 _ a.2.1 _ a'.2.1 _ a''.2.1 p q,λa a' a'' p q=>by
   simp only[ltOf,decide_eq_false_iff_not] at p q ⊢;exact h3 _ a.2.1 _ a'.2.1 _ a''.2.1 p q⟩
 have hfl:(flatK enc 4 d.toArray).toList=c.toList.take (xs.length*4):=by
  rw[zWn hk (by decide)];exact hd2
 have hH:HoldsK enc 4 X.w b 0 d.toArray:=by
  intro j hj;have hj':j<xs.length*4:=by rw[size_flatK] at hj;simpa[hdl] using hj
  have e1:(flatK enc 4 d.toArray)[j]?=c[j]?:=by
   rw[<- Array.getElem?_toList,hfl,List.getElem?_take,if_pos hj',Array.getElem?_toList]
  have hjc:j<c.size:=by omega
  rw[Array.getElem?_eq_getElem hj,Array.getElem?_eq_getElem hjc] at e1;refine⟨?_,?_⟩
  ·rw[Nat.zero_add,yZ6 hh,Array.getElem?_toList,Array.getElem?_eq_getElem hjc,<- e1,id,getElem!_pos _ j hj]
  ·simp only[World.frozen?,hh];simp
 have hmono:∀(n:Nat) (dk:Array α) (os:Array Obj) (X1:WS),X1.w=sortWorldK enc 4 X.w b 0 n dk os->X1.L=X.L->∀r x,V B X.L X.w r x->V B X1.L X1.w r x:=by
  intro n dk os X1 hw hXL r x hrx;refine V.mono hrx (λj=>by rw[hXL];exact Nat.le_refl _) (λj i hi=>?_) (λj p hp=>?_)
  ·have hjb:j≠b:=by rintro rfl;rw[hL] at hi;omega
   have hjl:j<X.w.heap.size:=by
    rcases Nat.lt_or_ge j X.w.heap.size with h|h
    ·exact h
    ·rw[hg.Lnew j h] at hi;omega
   exact yK9 (by rw[hw];exact yWn hjb hjl) i
  ·by_cases hjb:j=b
   ·subst hjb;simp only[shq,hh] at hp;simp only[shq,hw,xKf hh];rw[<- hp];simp[putCells]
   ·rw[<- hp];exact yXx (by rw[hw];exact yWn hjb (yUx hp))
 have hcon:=AnyQ.slices_SortFunc Tryz.sortFL 4 xU1 xWn enc hk hone cf' hO g #[] b 0 cap d.toArray X.w hent (by
   intro n os dk hdk a a'
   let X1:WS:={ w:=sortWorldK enc 4 X.w b 0 n dk os,L:=X.L,st:=λ_=>none,d:=X.w.drawn+n }
   have hsz:=size_sortWorldK_c enc 4 X.w b 0 n dk os;have hg1:Go.Iv.Good ⟨prog,λ_=>none,B⟩ X1:=⟨λ_ _ h=>(by cases h),λ_ _ h=>(by cases h),Nat.le_trans hg.B hsz,λj hj=>hg.Lnew j (Nat.le_trans hsz hj),λ_ _ h=>(by cases h),λ_=>Nat.le_refl _⟩
   have hm1:=hmono n dk os X1 rfl rfl;have agg:∀a:α,V B X1.L X1.w (.agg (enc a).toArray) a.1.1:=λa=>by
    obtain⟨⟨x,vs⟩,hxm,hvx⟩:=a;obtain⟨cs,rfl⟩:∃cs,x=.agg cs:=by
     have:=hx x hxm;cases x<;>first|exact⟨_,rfl⟩|(simp[fits] at this)
    exact (show VL B X1.L X1.w vs cs from⟨hvx.1,λi r c hr hc=>hm1 r c (hvx.2 i r c hr hc)⟩).agg
   refine (hcmp a.1.1 a.2.1 a'.1.1 a'.2.1 B X1 [.agg (enc a).toArray,.agg (enc a').toArray] hg1 rfl (VL.cons (agg a) (VL.cons (agg a') VL.nil))).mono ?_;rintro e w' ⟨v,rfl,X',x,rfl,hg',he',hv',rfl⟩;obtain rfl:=V.raw_inv hv';refine⟨rfl,?_⟩;have hd:=hg'.dr (λ_=>rfl);rw[he'.d] at hd;exact xJu he' (λ_=>rfl) hd) hH hblk (by simp[hdl];omega)
 have harr:(⟨[.slice (some ⟨b,0,none⟩) xs.length cap,.func (.func g) ⟨[]⟩ ⟨[]⟩]⟩:Array Value)=#[.slice (some ⟨b,0,none⟩) d.toArray.size cap,.func (.func g) #[] #[]]:=by simp[hdl]
 rw[harr];refine hcon.mono ?_;rintro e w' ⟨rfl,d',n,os,hp,hs,rfl⟩;have hd'l:d'.size=xs.length:=by rw[hp.1];simp[hdl]
 have hperm:d'.toList.Perm d:=by
  have:=hp.2.2;rw[List.size_toArray,hdl,<- hd'l,Array.extract_size] at this
  rwa [hd'l,<- hdl,show d.toArray.extract 0 d.length=d.toArray by simp] at this
 have hys:∀y∈d'.toList.map (λa=>a.1.1),y∈xs:=λy hy=>by
  obtain⟨a,_,rfl⟩:=List.mem_map.1 hy;exact a.2.1
 have hblock:=xKf (enc:=enc) (k:=4) (m:=n) (dk:=d') (os:=os) hh;have hfs:(flatK enc 4 d').size=xs.length*4:=by rw[size_flatK,hd'l]
 have hpl:(putCells id 0 (flatK enc 4 d') c).toList=d'.toList.flatMap enc++c.toList.drop (xs.length*4):=by
  rw[zYo (by omega),zWn hk (by decide),hfs]
 let X':WS:={ w:=sortWorldK enc 4 X.w b 0 n d' os,L:=X.L,st:=X.st.put b (some (.box ((d'.toList.map (λa=>a.1.1)).flatMap IV.cells++rest))),d:=X.d }
 have hm:=hmono n d' os X' rfl rfl;have hsz:=size_sortWorldK_c enc 4 X.w b 0 n d' os;have hvlm:∀rs cs,VL B X.L X.w rs cs->VL B X'.L X'.w rs cs:=λrs cs h=>⟨h.1,λi r x hr hx=>hm r x (h.2 i r x hr hx)⟩
 have hgood:Go.Iv.Good ⟨prog,gl,B⟩ X':=by
  refine⟨λj o ho=>?_,λj x hj=>hm _ _ (hg.gl j x hj),Nat.le_trans hg.B hsz,λj hj=>hg.Lnew j (Nat.le_trans hsz hj),λj x hj=>?_,λhd=>Nat.le_trans (hg.dr hd) (Nat.le_add_right _ _)⟩
  ·by_cases hjb:j=b
   ·subst hjb;simp only[X',ISt.put_same,Option.some.injEq] at ho;subst ho;refine⟨hL,_,T,hblock,hvlm _ _ ?_⟩;rw[hpl];refine VL.append ?_ ?_
    ·have key:∀l:List α,VL B X.L X.w (l.flatMap enc) ((l.map λa=>a.1.1).flatMap IV.cells):=λl=>by
      induction l with
      | nil=>exact VL.nil
      | cons a l ih=>simp only[List.flatMap_cons,List.map_cons];exact a.2.2.append ih
     exact key _
    ·have:=hvl.drop (xs.length*4)
     rwa [List.drop_left' (yQu xs hcells)] at this
   ·have ho':X.st j=some o:=by simpa only[X',ISt.put_apply,if_neg hjb] using ho
    exact (hg.ok j o ho').mono (yWn hjb (hg.lt ho')) rfl hvlm
  ·obtain⟨T',z,hT⟩:=hg.gsh j x hj;refine⟨T',z,?_⟩;by_cases hjb:j=b
   ·subst hjb;simp only[shq,hh] at hT;simp only[shq,X',hblock];rw[<- hT];simp[putCells]
   ·rw[<- hT];exact yXx (yWn hjb (yUx hT))
 refine⟨_,rfl,X',.tup [],rfl,hgood,⟨rfl,rfl,rfl,hsz,λ_=>Nat.le_refl _,λj i hi=>?_,λj hj hs0=>?_,λj hj hs0=>?_,λj p hp=>?_,rfl⟩,.tup [] [] rfl (λi r c h=>by simp at h),rfl,_,?_,?_,rfl⟩
 ·have hjb:j≠b:=by rintro rfl;rw[hL] at hi;omega
  have hjl:j<X.w.heap.size:=by
   rcases Nat.lt_or_ge j X.w.heap.size with h|h
   ·exact h
   ·rw[hg.Lnew j h] at hi;omega
  exact yK9 (yWn hjb hjl) i
 ·have hjb:j≠b:=by rintro rfl;rw[hb] at hs0;cases hs0
  exact⟨yWn hjb hj,rfl⟩
 ·have hjb:j≠b:=by rintro rfl;rw[hb] at hs0;cases hs0
  simp only[X',ISt.put_apply,if_neg hjb];exact hs0
 ·by_cases hjb:j=b
  ·subst hjb;simp only[shq,hh] at hp;simp only[shq,X',hblock];rw[<- hp];simp[putCells]
  ·rw[<- hp];exact yXx (yWn hjb (yUx hp))
 ·have:=hperm.map (λa:α=>a.1.1)
  rwa [hd1] at this
 ·rw[List.pairwise_map];refine List.pairwise_iff_getElem.2 λi j hi hj hij=>?_;have:=hs i j (Nat.zero_le _) hij (by simp at hj ⊢;omega);simp only[ltOf,decide_eq_false_iff_not] at this;rw[Array.length_toList] at hi hj;rw[getElem!_pos d' i hi,getElem!_pos d' j hj] at this;exact this
end Go.Proofs.Tryz
namespace Go.Proofs.Tryz
open Go Go.Iv Go.Shelf Go.RowKit
set_option maxRecDepth 4000
variable (gl:Nat->Option IV)
mutual
theorem vQv:∀(a b:Tm)(x:IV),IsTm a x->IsTm b x->a=b
 | .mk v n us,.mk w m ws,x,h,k=>by
  obtain⟨t,xs,rfl,_,h1⟩:=h.mk;obtain⟨t',xs',hx,_,h2⟩:=k.mk;simp only[IV.agg.injEq,List.cons.injEq,IV.raw.injEq,Value.bool.injEq,Value.string.injEq,IV.sl.injEq,and_true] at hx;obtain⟨rfl,rfl,rfl,rfl⟩:=hx;rw[xZu us ws xs h1 h2]
theorem xZu:∀(l m:List Tm)(xs:List IV),IsTms l xs->IsTms m xs->l=m
 | [],[],_,_,_=>rfl
 | [],b::m,xs,h,k=>by
  simp only[IsTms] at h k;obtain⟨y,ys,rfl,_⟩:=k;cases h
 | a::l,[],xs,h,k=>by
  simp only[IsTms] at h k;obtain⟨y,ys,rfl,_⟩:=h;cases k
 | a::l,b::m,xs,h,k=>by
  simp only[IsTms] at h k;obtain⟨y,ys,rfl,h1,h2⟩:=h;obtain⟨y',ys',he,k1,k2⟩:=k;cases he;rw[vQv a b y h1 k1,xZu l m ys h2 k2]
end
mutual
theorem wWf:∀(a b:Fm)(x:IV),IsFm a x->IsFm b x->a=b
 | .mk o n us sub,.mk o' m ws sub',x,h,k=>by
  obtain⟨t,xs,t2,xs2,rfl,_,_,h1,_,h2⟩:=h.mk;obtain⟨t',xs',t2',xs2',hx,_,_,k1,_,k2⟩:=k.mk;simp only[IV.agg.injEq,List.cons.injEq,IV.raw.injEq,Value.int.injEq,Value.string.injEq,IV.sl.injEq,and_true,true_and,Int.natCast_inj] at hx;obtain⟨rfl,rfl,⟨rfl,rfl⟩,rfl,rfl⟩:=hx;rw[xZu us ws xs h1 k1,wZa sub sub' xs2 h2 k2]
theorem wZa:∀(l m:List Fm)(xs:List IV),IsFms l xs->IsFms m xs->l=m
 | [],[],_,_,_=>rfl
 | [],b::m,xs,h,k=>by
  simp only[IsFms] at h k;obtain⟨y,ys,rfl,_⟩:=k;cases h
 | a::l,[],xs,h,k=>by
  simp only[IsFms] at h k;obtain⟨y,ys,rfl,_⟩:=h;cases k
 | a::l,b::m,xs,h,k=>by
  simp only[IsFms] at h k;obtain⟨y,ys,rfl,h1,h2⟩:=h;obtain⟨y',ys',he,k1,k2⟩:=k;cases he;rw[wWf a b y h1 k1,wZa l m ys h2 k2]
end
open Classical in
noncomputable def rdF (x:IV):Fm:=if h:∃a,IsFm a x then h.choose else fm0
theorem xKp {a:Fm}{x:IV}(h:IsFm a x):rdF x=a:=by
 have he:∃a,IsFm a x:=⟨a,h⟩
 unfold rdF;rw[dif_pos he];exact wWf _ _ x he.choose_spec h
theorem xKo:∀ {l:List Fm}{xs:List IV},IsFms l xs->xs.map rdF=l
 | [],_,rfl=>rfl
 | a::l,_,⟨x,xs,rfl,hx,hl⟩=>by rw[List.map_cons,xKp hx,xKo hl]
theorem wWe:∀ {ys:List IV},(∀y∈ys,∃a,IsFm a y)->IsFms (ys.map rdF) ys
 | [],_=>rfl
 | y::ys,h=>by
  obtain⟨a,ha⟩:=h y (by simp);exact⟨y,ys,rfl,by rw[xKp ha];exact ha,wWe λz hz=>h z (by simp[hz])⟩
theorem zGc:∀ {l:List Fm}{xs:List IV},IsFms l xs->∀y∈xs,∃a,IsFm a y/\a∈l
 | [],_,rfl,y,h=>by cases h
 | a::l,_,⟨x,xs,rfl,hx,hl⟩,y,h=>by
  rcases List.mem_cons.1 h with rfl|h
  ·exact⟨a,hx,by simp⟩
  ·obtain⟨b,hb,hm⟩:=zGc hl y h;exact⟨b,hb,by simp[hm]⟩
theorem vJs (l:List Fm)(xs rest:List IV)(hx:IsFms l xs)(hne:xs≠[])(hlen:xs.length<=140737488355328)(b cap:Nat)(st:ISt)(hb:st b=some (.box (xs.flatMap IV.cells++rest))) :
  ICall prog gl 134 [.raw (.slice (some ⟨b,0,none⟩) xs.length cap),.fn (.func 135) [] []] st
   (λr st'=>r=.tup []/\∃(m:List Fm) (ys:List IV),IsFms m ys/\m.Perm l/\m.Pairwise (λx y=>¬ yZf y x<0)/\(∀y∈ys,y∈xs)/\st'=st.put b (some (.box (ys.flatMap IV.cells++rest)))):=by
 refine (xG5 gl 135 ?_ xs rest b cap st hne hlen (yJ8 hx) hb (λx y=>yZf (rdF x) (rdF y)) (λx _=>zKn _) (λx _ y _ z _=>zXt _ _ _) (λx _ y _ z _ h1 h2 h3=>?_) (λx hxm y hym=>?_)).mono ?_
 ·exact enters_of func135 (by kernel_rfl) rfl
 ·rcases Int.lt_or_le (yZf (rdF y) (rdF x)) 0 with h|h
  ·have:=zXt _ _ _ h h3;exact h2 this
  ·have hxy:yZf (rdF x) (rdF y)=0:=by
    have:=zQi (rdF x) (rdF y);omega
   rw[(zQj _ _).1 hxy] at h3;exact h2 h3
 ·obtain⟨a,ha,_⟩:=zGc hx x hxm;obtain⟨c,hc,_⟩:=zGc hx y hym;rw[xKp ha,xKp hc];exact (xZb (λ_=>none) a c x y ha hc _).mono λr st' h=>h.1
 ·rintro r st' ⟨rfl,ys,hp,hpw,rfl⟩;refine⟨rfl,ys.map rdF,ys,wWe λy hy=>?_,?_,?_,λy hy=>hp.mem_iff.1 hy,rfl⟩
  ·obtain⟨a,ha,_⟩:=zGc hx y (hp.mem_iff.1 hy);exact⟨a,ha⟩
  ·rw[<- xKo hx];exact hp.map rdF
  ·exact List.pairwise_map.2 hpw
theorem wXd (t:Tag)(ht:t.cap=.nil)(st:ISt):ICall prog gl 134 [.sl t [],.fn (.func 135) [] []] st (λr st'=>r=.tup []/\st'=st):=by
 obtain⟨fs,c,es⟩:=t;obtain rfl:c=.nil:=ht;intro B X rs hg hst hv;obtain⟨r0,r1,rfl⟩:∃r0 r1,rs=[r0,r1]:=by
  match rs,hv with
  | [a,b],_=>exact⟨a,b,rfl⟩
  | [],hv=>cases hv.1
  | [_],hv=>cases hv.1
  | _::_::_::_,hv=>cases hv.1
 obtain⟨p,cap,rfl⟩:∃p cap,r0=.slice p 0 cap:=by
  have:=hv.2 0 r0 _ rfl rfl;obtain⟨a,cap,_,_,rfl,_⟩:=V.sl_inv this;exact⟨a,cap,rfl⟩
 refine Calls.mono (AnyF.slices_SortFunc_none Tryz.sortFL p cap r1 X.w) ?_;rintro e w' ⟨rfl,rfl⟩;exact⟨_,rfl,X,.tup [],rfl,hg,Ext.refl X,.tup [] [] rfl (λi r c h=>by simp at h),rfl,hst⟩
noncomputable def ddF (p:Fm):List Fm->List Fm
 | []=>[]
 | b::l=>if yZf b p=0 then ddF b l else b::ddF b l
noncomputable def dd:List Fm->List Fm
 | []=>[]
 | a::l=>a::ddF a l
theorem xW0:∀(p:Fm)(l:List Fm)(a b:Fm),(p::l).getLast?=some a->ddF p (l++[b])=ddF p l++(if yZf b a=0 then [] else [b])
 | p,[],a,b,h=>by
  simp only[List.getLast?_singleton,Option.some.injEq] at h;subst h;simp only[List.nil_append,ddF]
 | p,c::l,a,b,h=>by
  rw[List.getLast?_cons_cons] at h;simp only[List.cons_append,ddF,xW0 c l a b h];split<;>rfl
theorem wGq:∀(l:List Fm)(a b:Fm),l.getLast?=some a->dd (l++[b])=dd l++(if yZf b a=0 then [] else [b])
 | p::l,a,b,h=>by simp only[List.cons_append,dd,xW0 p l a b h]
theorem wZn {m:List Fm}{k:Nat}{a b:Fm}(ha:m[k]?=some a)(hb:m[k+1]?=some b):dd (m.take (k+1+1))=dd (m.take (k+1))++(if yZf b a=0 then [] else [b]):=by
 rw[yQ5 hb];exact wGq _ a b (by rw[yQ5 ha,List.getLast?_concat])
theorem wZp:∀(p:Fm)(l:List Fm),(p::l).Pairwise (λx y=>¬ yZf y x<0)->(∀f,f∈p::ddF p l↔f∈p::l)/\(p::ddF p l).Pairwise (λx y=>yZf x y<0)
 | p,[],_=>⟨λf=>Iff.rfl,List.pairwise_singleton ..⟩
 | p,b::l,h=>by
  have h1:=List.pairwise_cons.1 h;obtain⟨i1,i2⟩:=wZp b l h1.2;simp only[ddF];by_cases hc:yZf b p=0
  ·have hbp:=(zQj b p).1 hc;subst hbp;rw[if_pos hc];refine⟨λf=>?_,i2⟩;rw[i1 f];simp
  ·rw[if_neg hc];have hlt:yZf p b<0:=by
    have:=h1.1 b (by simp);have:=zQi b p;omega
   refine⟨λf=>?_,List.pairwise_cons.2 ⟨λf hf=>?_,i2⟩⟩
   ·rw[List.mem_cons,i1 f,List.mem_cons (l:=b::l)]
   ·rcases List.mem_cons.1 hf with rfl|hf
    ·exact hlt
    ·exact zXt _ _ _ hlt ((List.pairwise_cons.1 i2).1 f hf)
theorem wZo (l m:List Fm)(hp:m.Perm l)(h:m.Pairwise (λx y=>¬ yZf y x<0)):SetF l (dd m):=by
 cases m with
 | nil =>
  obtain rfl:=List.Perm.nil_eq hp;exact⟨List.Pairwise.nil,λf=>Iff.rfl⟩
 | cons a m =>
  obtain⟨h1,h2⟩:=wZp a m h;exact⟨h2,λf=>(h1 f).trans hp.mem_iff⟩
theorem rd4 {ys rest cs:List IV}(hf:∀y∈ys,y.cells.length=4)(hlen:cs.length=(ys.flatMap IV.cells++rest).length){i:Nat}{y:IV}(hy:ys[i]?=some y)(hc:∀j,i*4<=j->cs[j]?=(ys.flatMap IV.cells++rest)[j]?) :
  i*4+4<=cs.length/\(cs.drop (i*4)).take 4=y.cells:=by
 have hi:=(lGs hy).1;have h0:ys.flatMap IV.cells=(ys.take i).flatMap IV.cells++(y.cells++(ys.drop (i+1)).flatMap IV.cells):=by
  conv=>lhs;rw[<- List.take_append_drop i ys,List.drop_eq_getElem_cons hi,(lGs hy).2]
  rw[List.flatMap_append,List.flatMap_cons]
 have h1:((ys.take i).flatMap IV.cells).length=i*4:=by
  rw[yQu _ λz hz=>hf z (List.mem_of_mem_take hz),List.length_take];omega
 have hy4:=hf y (lMg hy);have hd:cs.drop (i*4)=(ys.flatMap IV.cells++rest).drop (i*4):=by
  apply List.ext_getElem?;intro j;rw[List.getElem?_drop,List.getElem?_drop,hc _ (by omega)]
 refine⟨?_,?_⟩
 ·rw[hlen,h0];simp only[lLa,h1,hy4];omega
 ·rw[hd,h0,List.append_assoc,List.drop_left' h1,List.append_assoc,List.take_left' hy4]
theorem xVs:∀ {l:List Fm}{xs:List IV}(k:Nat),IsFms l xs->IsFms (l.take k) (xs.take k)
 | [],_,k,rfl=>by simp[IsFms]
 | a::l,_,0,_=>by simp[IsFms]
 | a::l,_,k+1,⟨y,ys,rfl,hy,h⟩=>by
  rw[List.take_succ_cons,List.take_succ_cons];exact⟨y,ys.take k,rfl,hy,xVs k h⟩
theorem st4 {cs l:List IV}{k n:Nat}(hl:l.length=n)(h:k*4+n<=cs.length):(yX2 cs (k*4) l).length=cs.length/\(yX2 cs (k*4) l).take (k*4)=cs.take (k*4)/\(yX2 cs (k*4) l).take (k*4+n)=cs.take (k*4)++l/\∀i,k*4+n<=i->(yX2 cs (k*4) l)[i]?=cs[i]?:=by
 have h1:(cs.take (k*4)).length=k*4:=by rw[List.length_take];omega
 have h2:(cs.take (k*4)++l).length=k*4+n:=by rw[lLa,h1,hl]
 unfold yX2;refine⟨?_,?_,List.take_left' h2,λi hi=>?_⟩
 ·rw[lLa,h2,List.length_drop,hl];omega
 ·rw[List.append_assoc,List.take_left' h1]
 ·rw[List.getElem?_append_right (by omega),h2,List.getElem?_drop,hl];congr 1;omega
theorem zZn {k n:Nat}(h:k<=n):yXf (some ((k:Nat):Int)) none n=some (k,n):=by
 simp only[yXf,Option.getD_none,Option.getD_some];rw[if_pos ⟨by omega,by omega,Int.le_refl _⟩];simp
theorem xWc {k n:Nat}(h:k<=n):yXf none (some ((k:Nat):Int)) n=some (0,k):=by
 simp only[yXf,Option.getD_none,Option.getD_some];rw[if_pos ⟨Int.le_refl _,by omega,by omega⟩];simp
theorem wXg (m:List Fm)(ys rest:List IV)(hx:IsFms m ys)(hlen:m.length<=1099511627776)(g cap:Nat)(hcap:m.length<=cap)(st:ISt)(hb:st g=some (.box (ys.flatMap IV.cells++rest))) :
  ICall prog gl 136 [.raw (.slice (some ⟨g,0,none⟩) m.length cap),.fn (.func 137) [] []] st
   (λr st'=>∃k cs zs,r=.raw (.slice (some ⟨g,0,none⟩) k cap)/\st'=st.put g (some (.box cs))/\cs.length=(ys.flatMap IV.cells++rest).length/\cs.take (k*4)=zs.flatMap IV.cells/\IsFms (dd m) zs/\zs.length=k/\k<=m.length/\∀z∈zs,z∈ys):=by
 have hf4:∀y∈ys,y.cells.length=4:=λy hy=>xJj (yJ8 hx y hy);have hyl:=hx.len;have hput:st.put g (some (.box (ys.flatMap IV.cells++rest)))=st:=yXi hb;have same:∀k,dd (m.take k)=m.take k->k=m.length->∃k cs zs,IV.raw (.slice (some ⟨g,0,none⟩) m.length cap)=.raw (.slice (some ⟨g,0,none⟩) k cap)/\st=st.put g (some (.box cs))/\cs.length=(ys.flatMap IV.cells++rest).length/\cs.take (k*4)=zs.flatMap IV.cells/\IsFms (dd m) zs/\zs.length=k/\k<=m.length/\∀z∈zs,z∈ys:=by
  intro k hk hkl;rw[hkl,lTl] at hk;refine⟨m.length,_,ys,rfl,hput.symm,rfl,?_,by rw[hk];exact hx,hyl,Nat.le_refl _,λ_ h=>h⟩;rw[<- hyl,List.take_left' (yQu _ hf4)]
 refine ICall.intro (c:=cf prog gl [22,27,42,47] []) func136 rfl (by show _<=66;simp) (by kernel_rfl) ?_;by_cases h2:m.length<2
 ·have d2:decide (((m.length:Nat):Int)<2)=true:=dEt (by omega);simp only[go_sem,reduceCtorEq,d2];refine yQ0 (same m.length ?_ rfl);rw[lTl]
  match m,h2 with
  | [],_=>rfl
  | [a],_=>rfl
 ·have d2:decide (((m.length:Nat):Int)<2)=false:=dEf (by omega);simp only[go_sem,reduceCtorEq,d2];refine LoopC.ctr (m.length-1) (λc fr st' ds=>dd (m.take (c+1))=m.take (c+1)/\fr 0=.iv (.raw (.slice (some ⟨g,0,none⟩) m.length cap))/\fr 1=.iv (.fn (.func 137) [] [])/\fr 5=.iv (.raw (.int .i64 ((c+1:Nat):Int)))/\st'=st/\ds=[]) ?_ ?_ ?_
  ·simp only[go_sem,zE,reduceCtorEq];refine⟨?_,rfl⟩
   match m,h2 with
   | [],h=>exact absurd (show 0<2 by decide) h
   | [a],h=>exact absurd (show 1<2 by decide) h
   | a::b::l,_=>rfl
  ·rintro c fr st1 _ hlt ⟨hd,f0,f1,f5,rfl,rfl⟩;have hlt':c+1<m.length:=by omega
   obtain⟨a,ha⟩:=yQ2 (l:=m) (k:=c) (by omega);obtain⟨b,hbm⟩:=yQ2 hlt';obtain⟨x,hkx,hxa⟩:=hx.get ha;obtain⟨y,hky,hyb⟩:=hx.get hbm;have hcall:=xUb gl b a y x hyb hxa st1;obtain⟨rx1,rx2⟩:=rd4 (rest:=rest) hf4 rfl hkx (λ_ _=>rfl);obtain⟨ry1,ry2⟩:=rd4 (rest:=rest) hf4 rfl hky (λ_ _=>rfl);obtain⟨x1,x2,x3,x4,x5,x6,rfl⟩:=hxa.agg;obtain⟨y1,y2,y3,y4,y5,y6,rfl⟩:=hyb.agg;simp only[IV.cells] at rx2 ry2;have hw:IntKind.i64.wrap (((c+1:Nat):Int)-1)=(c:Nat):=by rw[w64 (by omega) (by omega)];omega
   simp only[go_sem,zE,zB,reduceCtorEq,f0,f1,f5,lt_i hlt',hw,hlt',show c<m.length by omega,iNn,hb,rx1,ry1,rx2,ry2,fits];refine hcall.mono ?_;rintro _ st1 ⟨rfl,rfl⟩;have hds:=wZn ha hbm;by_cases he:yZf b a=0
   ·rw[if_pos he,List.append_nil,hd] at hds;have hcne:¬ cap=c+1:=by omega
    simp only[go_sem,zE,reduceCtorEq,dEt he,f0,f5,zZn (show c+1<=m.length by omega),hcap,hcne];refine LoopC.ctr (m.length-(c+1)-1) (λj fr st' ds=>(∃k cs zs,fr 5=.iv (.raw (.int .i64 ((k:Nat):Int)))/\st'=st1.put g (some (.box cs))/\cs.length=(ys.flatMap IV.cells++rest).length/\cs.take (k*4)=zs.flatMap IV.cells/\IsFms (dd (m.take (c+1+j+1))) zs/\zs.length=k/\k<=c+1+j/\(∀z∈zs,z∈ys)/\∀i,(c+1+j)*4<=i->cs[i]?=(ys.flatMap IV.cells++rest)[i]?) /\
     fr 0=.iv (.raw (.slice (some ⟨g,0,none⟩) m.length cap))/\fr 1=.iv (.fn (.func 137) [] [])/\fr 6=.iv (.raw (.slice (some ⟨g,(c+1)*4,none⟩) (m.length-(c+1)) (cap-(c+1))))/\fr 7=.iv (.raw (.int .i64 ((j+1:Nat):Int)))/\ds=[]) ?_ ?_ ?_
    ·simp only[go_sem,zE,reduceCtorEq];refine⟨⟨c+1,ys.flatMap IV.cells++rest,ys.take (c+1),f5,(yXi hb).symm,rfl,?_,?_,?_,Nat.le_refl _,λz hz=>List.mem_of_mem_take hz,λ_ _=>rfl⟩,f0,f1,rfl⟩
     ·conv=>lhs;rw[<- List.take_append_drop (c+1) ys]
      rw[List.flatMap_append,List.append_assoc,List.take_left' (by rw[yQu _ λz hz=>hf4 z (List.mem_of_mem_take hz),List.length_take];omega)]
     ·rw[hds];exact xVs _ hx
     ·rw[List.length_take];omega
    ·rintro j fr st2 _ hj ⟨⟨k,cs,zs,f5,rfl,hcl,hct,hz,hzl,hk,hzm,hcs⟩,f0,f1,f6,f7,rfl⟩;obtain⟨a',ha'⟩:=yQ2 (l:=m) (k:=c+1+j) (by omega);obtain⟨b',hb'⟩:=yQ2 (l:=m) (k:=c+1+j+1) (by omega);obtain⟨x',hkx',hxa'⟩:=hx.get ha';obtain⟨y',hky',hyb'⟩:=hx.get hb';have hyb0:=hyb';have hcall':=xUb gl b' a' y' x' hyb' hxa' (st1.put g (some (.box cs)));obtain⟨rx1',rx2'⟩:=rd4 hf4 hcl hkx' hcs;obtain⟨ry1',ry2'⟩:=rd4 hf4 hcl hky' (λi hi=>hcs i (by omega));have hy4:=hf4 y' (lMg hky');obtain⟨p1,p2,p3,p4,p5,p6,rfl⟩:=hxa'.agg;obtain⟨q1,q2,q3,q4,q5,q6,rfl⟩:=hyb'.agg;simp only[IV.cells] at rx2' ry2' hy4;have hw':IntKind.i64.wrap (((j+1:Nat):Int)-1)=(j:Nat):=by rw[w64 (by omega) (by omega)];omega
     have o1:(c+1)*4+j*4=(c+1+j)*4:=by omega
     have o2:(c+1)*4+(j+1)*4=(c+1+j+1)*4:=by omega
     have hj1:j+1<m.length-(c+1):=by omega
     have hj0:j<m.length-(c+1):=by omega
     have hds':=wZn ha' hb';simp only[go_sem,zE,zB,f1,f6,f7,lt_i hj1,hj0,hj1,hw',iNn,ISt.put_same,o1,o2,rx1',ry1',rx2',ry2',fits];refine hcall'.mono ?_;rintro _ _ ⟨rfl,rfl⟩;by_cases he':yZf b' a'=0
     ·rw[if_pos he',List.append_nil] at hds';simp only[go_sem,zE,reduceCtorEq,dEt he',f0,f1,f5,f6,f7,yQa hj1 (show m.length-(c+1)<=281474976710656 by omega)];exact⟨k,cs,zs,rfl,rfl,hcl,hct,by rw[show c+1+(j+1)+1=c+1+j+1+1 by omega,hds'];exact hz,hzl,by omega,hzm,λi hi=>hcs i (by omega)⟩
     ·rw[if_neg he'] at hds';have hkm:k<m.length:=by omega
      have hk4:k*4+4<=cs.length:=by omega
      obtain⟨s1,s2,s3,s4⟩:=st4 hy4 hk4;simp only[go_sem,zE,zB,zA,reduceCtorEq,dEf he',f0,f1,f5,f6,f7,hj1,hkm,iNn,ISt.put_same,o2,ry1',ry2',hk4,fits,yQa hkm (show m.length<=281474976710656 by omega),yQa hj1 (show m.length-(c+1)<=281474976710656 by omega)];refine⟨k+1,yX2 cs (k*4) [.raw (.int .u8 q1),.raw (.string q2),.sl q3 q4,.sl q5 q6],zs++[.agg [.raw (.int .u8 q1),.raw (.string q2),.sl q3 q4,.sl q5 q6]],rfl,by rw[yQd];rfl,s1.trans hcl,?_,?_,by simp[hzl],by omega,λz hz=>by
        rcases List.mem_append.1 hz with hz|hz
        ·exact hzm z hz
        ·rw[List.mem_singleton.1 hz];exact lMg hky',λi hi=>(s4 i (by omega)).trans (hcs i (by omega))⟩
      ·rw[show (k+1)*4=k*4+4 by omega,s3,hct,List.flatMap_append];simp[IV.cells]
      ·rw[show c+1+(j+1)+1=c+1+j+1+1 by omega,hds'];exact hz.append ⟨_,_,rfl,hyb0,rfl⟩
    ·rintro fr st2 _ ⟨⟨k,cs,zs,f5,rfl,hcl,hct,hz,hzl,hk,hzm,hcs⟩,f0,f1,f6,f7,rfl⟩;have hkm:k<m.length:=by omega
     have hck:¬ cap=k:=by omega
     have hmk:¬ m.length-k=0:=by omega
     have hlen4:m.length*4<=cs.length:=by rw[hcl,lLa,yQu _ hf4];omega
     have hk4:k*4+(m.length-k)*4<=cs.length:=by omega
     obtain⟨s1,s2,s3,s4⟩:=st4 (cs:=cs) (k:=k) (l:=List.replicate ((m.length-k)*4) .junk) (List.length_replicate ..) hk4;rw[show m.length-(c+1)-1+1=m.length-(c+1) by omega] at f7;simp only[go_sem,zE,reduceCtorEq,f0,f5,f6,f7,yQk (nLi _),zZn (show k<=m.length by omega),xWc (show k<=cap by omega),hcap,hck,hmk,ISt.put_same,hk4,ite_self,Nat.zero_mul];rw[show c+1+(m.length-(c+1)-1)+1=m.length by omega,lTl] at hz;exact yQ0 ⟨k,yX2 cs (k*4) (List.replicate ((m.length-k)*4) .junk),zs,rfl,by rw[yQd];rfl,s1.trans hcl,s2.trans hct,hz,hzl,by omega,hzm⟩
   ·rw[if_neg he,hd] at hds;simp only[go_sem,zE,reduceCtorEq,dEf he,f0,f1,f5,yQa hlt' (show m.length<=281474976710656 by omega)];rw[hds,yQ5 hbm]
  ·rintro fr st1 _ ⟨hd,f0,f1,f5,rfl,rfl⟩;rw[show m.length-1+1=m.length by omega] at hd f5;simp only[go_sem,zE,reduceCtorEq,f0,f5,yQk (nLi _)];exact yQ0 (same m.length hd rfl)
end Go.Proofs.Tryz
namespace Go.Proofs.Tryz
open Go Go.Iv
set_option maxRecDepth 4000
variable (gl:Nat->Option IV)
open Classical in
noncomputable def setF (l:List Fm):List Fm:=if h:∃r,SetF l r then h.choose else []
theorem zQv {l r:List Fm}(h:SetF l r):setF l=r:=by
 have he:∃r,SetF l r:=⟨r,h⟩
 unfold setF;rw[dif_pos he];exact SetF.one he.choose_spec h
theorem xKl:setF []=[]:=zQv ⟨List.Pairwise.nil,λ_=>Iff.rfl⟩
noncomputable def yZb (l:List Fm):List Fm×Nat:=if l.all Fm.right then (setF (l.map yXk),0) else ([],2)
theorem xZo (t:Tag)(ht:t.cap=.nil)(st:ISt):ICall prog gl 136 [.sl t [],.fn (.func 137) [] []] st (λr st'=>(∃t',r=.sl t' []/\t'.cap=.nil)/\st'=st):=by
 obtain⟨fs,c,es⟩:=t;obtain rfl:c=.nil:=ht;refine ICall.intro (c:=cf prog gl [22,27,42,47] []) func136 rfl (by show _<=66;simp) (by kernel_rfl) ?_;simp only[go_sem,zL,reduceCtorEq,show decide (((0:Nat):Int)<2)=true from rfl];exact yQ0 ⟨⟨_,rfl,rfl⟩,rfl⟩
theorem wKf {l:List IV}(h:∀x∈l,dfr x):dfrs l:=by
 induction l with
 | nil=>trivial
 | cons x l ih=>exact⟨h x (by simp),ih λy hy=>h y (by simp[hy])⟩
theorem wXx {l m:List Fm}(hp:m.Perm l)(h:m.Pairwise (λx y=>¬ yZf y x<0))(hl:0<l.length):0<(setF l).length:=by
 rw[zQv (wZo _ m hp h)];have:=hp.length_eq
 match m,this with
 | [],e=>simp at e;omega
 | a::m,_=>simp[dd]
theorem zUz (G:Gl gl)(T:Gt gl)(l:List Fm)(tg:Tag)(xs:List IV)(htg:okEs tg 4)(hx:IsFms l xs)(hs:fitL l)(hlen:l.length<=1099511627776)(st:ISt) :
  ICall prog gl 92 [.sl tg xs] st (λr st'=>(∃t ys,r=.tup [.sl t ys,.raw (.int .i64 (yZb l).2)]/\okEs t 4/\appT (yZb l).1.length t/\IsFmsD (yZb l).1 ys)/\st'=st):=by
 refine ICall.fixN (ICall.mono (K:=λy st'=>(l.all Fm.right=false/\y=.tup [.sl ⟨true,.nil,0⟩ [],.raw (.int .i64 2)]/\st'=st)\/(l=[]/\(∃t,y=.tup [.sl t [],.raw (.int .i64 0)]/\t.cap=.nil)/\st'=st) \/
   (l.all Fm.right=true/\∃g cap k cs zs,st g=none/\k<=cap/\cap*4<=cs.length/\cs.take (k*4)=zs.flatMap IV.cells/\0<k/\IsFmsD (setF (l.map yXk)) zs/\zs.length=k/\k<=l.length/\y=.tup [.raw (.slice (some ⟨g,0,none⟩) k cap),.raw (.int .i64 0)]/\st'=st.put g (some (.box cs)))) ?_ ?_)
 ·refine ICall.intro (c:=cf prog gl [26] []) func92 rfl (by show _<=32;simp) (by kernel_rfl) ?_;simp only[go_sem,reduceCtorEq,hx.len];intro _;refine LoopC.ctr l.length (λk fr st' ds=>(l.take k).all Fm.right=true/\((k=0/\fr 4=.iv (.sl ⟨true,.nil,0⟩ [])/\st'=st)\/(0<k/\∃g cap cs zs,st g=none/\k<=cap/\cap*4<=cs.length/\cs.take (k*4)=zs.flatMap IV.cells/\IsFmsD ((l.take k).map yXk) zs/\zs.length=k/\fr 4=.iv (.raw (.slice (some ⟨g,0,none⟩) k cap))/\st'=st.put g (some (.box cs)))) /\
   fr 9=.iv (.sl tg xs)/\fr 10=.iv (.raw (.int .i64 l.length))/\fr 11=.iv (.raw (.int .i64 k))/\ds=[]) ?_ ?_ ?_
  ·simp only[go_sem,zE,zM];rfl
  ·rintro k fr st1 _ hlt ⟨hall,hor,f9,f10,f11,rfl⟩;obtain⟨a,ha⟩:=yQ2 hlt;obtain⟨y,hky,hya⟩:=hx.get ha;have ham:=lMg ha;have hcall:=wV4 gl G T a y hya (hs a ham) st1;obtain⟨y1,y2,y3,y4,y5,y6,rfl⟩:=hya.agg;simp only[go_sem,zE,zB,zA,zL,reduceCtorEq,f9,f10,f11,lt_i hlt,yQ1 htg,iNn,hky,fits];refine hcall.mono ?_;rintro _ st1 ⟨y',rfl,hyD,rfl⟩;have hy':=hyD.1;unfold yXe at hy';cases hr:a.right
   ·rw[hr] at hy';simp only[bFt,if_false] at hy';obtain⟨z1,z2,z3,z4,z5,z6,rfl⟩:=hy'.agg;unfold yXe;rw[hr];simp only[bFt,if_false];simp only[go_sem,zE,zA,zL,show decide (((2:Nat):Int)=0)=false from rfl];have hsub:subSt st st1:=by
     rcases hor with⟨_,_,h⟩|⟨_,g,cap,cs,zs,hg,_,_,_,_,_,_,h⟩
     ·rw[h];exact subSt.refl _
     ·rw[h];exact yQe hg
    exact yQ9 hsub (.inl ⟨List.all_eq_false.2 ⟨a,ham,by simp[hr]⟩,rfl,rfl⟩)
   ·rw[hr] at hy';simp only[if_true] at hy';rw[show (yXe a).1=yXk a by unfold yXe;rw[hr];simp] at hyD;have hy0:=hyD;obtain⟨z1,z2,z3,z4,z5,z6,rfl⟩:=hy'.agg;unfold yXe;rw[hr];simp only[if_true];have hall':(l.take (k+1)).all Fm.right=true:=by
     rw[yQ5 ha,List.all_append,hall];simp[hr]
    rcases hor with⟨rfl,f4,rfl⟩|⟨hk0,g,cap,cs,zs,hg,h1,h2,h3,hz,hzl,f4,rfl⟩
    ·simp only[go_sem,zE,zA,zM,zL,show decide (((0:Nat):Int)=0)=true from rfl,fits,f4,yQ4];intro g cap;refine yQb λhg=>?_;obtain⟨hg,hcap⟩:=hg;simp only[go_sem,zE,f9,f10,f11,show IntKind.i64.wrap (((0:Nat):Int)+1)=((1:Nat):Int) from rfl];have hl1:(l.take 1).map yXk=[yXk a]:=by
      have:=yQ5 ha;simp only[Nat.zero_add,List.take_zero,List.nil_append] at this;rw[this];rfl
     refine⟨by simpa using hall',.inr ⟨by omega,g,cap,_,[.agg [.raw (.int .u8 z1),.raw (.string z2),.sl z3 z4,.sl z5 z6]],hg,hcap,?_,?_,by rw[hl1];exact IsFmsD.one hy0,rfl,rfl,rfl⟩⟩
     ·simp[IV.cells];omega
     ·simp[IV.cells]
    ·simp only[go_sem,zE,zA,zM,zL,show decide (((0:Nat):Int)=0)=true from rfl,fits,f4,yQ4];have hkk:k<=1099511627776:=by omega
     refine zZh _ _ _ (ISt.put_same ..) (by simp[fits,IV.one]) ⟨by show (_+1)*72<=_;omega,by show _+1<=_;omega⟩ ⟨h1,h2⟩ (by simp[IV.cells]) ?_;intro g' cap' cs' hg' q1 q2 q3;have hst':((st.put g (some (.box cs))).put g none).put g' (some (.box cs'))=st.put g' (some (.box cs')):=by
      funext c;simp only[ISt.put_apply];split
      ·rfl
      ·split
       ·subst_vars;exact hg.symm
       ·rfl
     have hg1:st g'=none:=by
      rcases hg' with rfl|h
      ·exact hg
      ·rw[ISt.put_apply] at h;split at h
       ·cases h
       ·exact h
     simp only[go_sem,zE,f9,f10,f11,yQa hlt (show l.length<=281474976710656 by omega)];refine⟨hall',.inr ⟨by omega,g',cap',cs',zs++[.agg [.raw (.int .u8 z1),.raw (.string z2),.sl z3 z4,.sl z5 z6]],hg1,q1,q2,?_,?_,by simp[hzl],rfl,hst'⟩⟩
     ·rw[List.flatMap_append,<- h3];exact q3
     ·rw[yQ5 ha,List.map_append];exact hz.append (IsFmsD.one hy0)
  ·rintro fr st1 _ ⟨hall,hor,f9,f10,f11,rfl⟩;rw[lTl] at hall hor;rcases hor with⟨h0,f4,rfl⟩|⟨hk0,g,cap,cs,zs,hg,h1,h2,h3,hz,hzl,f4,rfl⟩
   ·simp only[go_sem,zE,zA,f4,f10,f11,yQk (nLi _)];refine (wXd gl _ rfl _).mono ?_;rintro _ _ ⟨rfl,rfl⟩;simp only[go_sem,zE,zA,f4];refine (xZo gl _ rfl _).mono ?_;rintro _ _ ⟨⟨t',rfl,ht'⟩,rfl⟩;simp only[go_sem,zE];exact yQ0 (.inr (.inl ⟨List.eq_nil_of_length_eq_zero h0,⟨t',rfl,ht'⟩,rfl⟩))
   ·have hcs:cs=zs.flatMap IV.cells++cs.drop (l.length*4):=by rw[<- h3,List.take_append_drop]
    have hzl':=hz.len;have hsort:=vJs gl (l.map yXk) zs (cs.drop (l.length*4)) hz.1 (by rintro rfl;simp at hzl;omega) (by omega) g cap (st.put g (some (.box cs))) (by rw[ISt.put_same,<- hcs]);rw[hzl] at hsort;simp only[go_sem,zE,zA,f4,f10,f11,yQk (nLi _)];refine hsort.mono ?_;rintro _ _ ⟨rfl,m,ys,hm,hperm,hpw,hym,rfl⟩;have hml:m.length=l.length:=by rw[hperm.length_eq,List.length_map]
    have hcom:=wXg gl m ys (cs.drop (l.length*4)) hm (by omega) g cap (by omega) ((st.put g (some (.box cs))).put g (some (.box (ys.flatMap IV.cells++cs.drop (l.length*4))))) (ISt.put_same ..);rw[hml] at hcom;simp only[go_sem,zE,zA,f4];refine hcom.mono ?_;rintro _ _ ⟨k,cs2,zs2,rfl,rfl,hl2,ht2,hz2,hzl2,hk2,hzm2⟩;rw[yQd,yQd];simp only[go_sem,zE];have hyl:(ys.flatMap IV.cells).length=l.length*4:=by rw[yQu _ λy hy=>xJj (yJ8 hm y hy),hm.len,hml]
    rw[lLa,hyl,List.length_drop] at hl2;exact yQ0 (.inr (.inr ⟨hall,g,cap,k,cs2,zs2,hg,by omega,by omega,ht2,by
     have h1:=wXx hperm hpw (by rw[List.length_map];exact hk0);rw[zQv (wZo _ m hperm hpw),<- hz2.len,hzl2] at h1;exact h1,by rw[zQv (wZo _ m hperm hpw)];exact⟨hz2,wKf λz hz'=>yK1 hz.2 (hym z (hzm2 z hz'))⟩,hzl2,hk2,rfl,rfl⟩))
 ·rintro y st' (⟨ha,rfl,rfl⟩|⟨rfl,⟨t,rfl,ht⟩,rfl⟩|⟨ha,g,cap,k,cs,zs,hg,hc1,hc2,hct,hk0,hz,hzl,hkl,rfl,rfl⟩)
  ·have hn:yZb l=([],2):=by unfold yZb;rw[ha];rfl
   exact .inl ⟨⟨_,_,by rw[hn];rfl,.inl rfl,.inl rfl,by rw[hn];exact IsFmsD.nil⟩,rfl⟩
  ·have hn:yZb []=([],0):=by unfold yZb;simp only[List.all_nil,if_true,List.map_nil,xKl]
   exact .inl ⟨⟨_,_,by rw[hn];rfl,.inl ht,.inl ht,by rw[hn];exact IsFmsD.nil⟩,rfl⟩
  ·have hn:yZb l=(setF (l.map yXk),0):=by unfold yZb;rw[ha];rfl
   exact .inr ⟨g,k,cap,cs,4,zs,_,hg,rfl,rfl,hzl,by omega,hc1,hc2,hct,λz hz'=>xJj (yJ8 hz.1 z hz'),⟨_,_,by rw[hn];rfl,.inr rfl,.inr ⟨by rw[hn];simp only;rw[<- hz.len,hzl];exact hk0,rfl,g,rfl⟩,by rw[hn];exact hz⟩,rfl⟩
noncomputable def SetS (s:Sq):Sq×Nat :=
 if (yZb s.l).2≠0 then (⟨[],[]⟩,(yZb s.l).2) else if (yZb s.r).2≠0 then (⟨[],[]⟩,(yZb s.r).2) else (⟨(yZb s.l).1,(yZb s.r).1⟩,0)
theorem vJt (G:Gl gl)(T:Gt gl)(s:Sq)(x:IV)(hx:IsSq s x)(hs:yKt s)(hl:s.l.length<=1099511627776/\s.r.length<=1099511627776)(st:ISt) :
  ICall prog gl 42 [x] st (λr st'=>(∃y,r=.tup [y,.raw (.int .i64 (SetS s).2)]/\IsSqD (SetS s).1 y)/\st'=st):=by
 obtain⟨t1,x1,t2,x2,rfl,e1,i1,e2,i2⟩:=hx;have h1:=λst=>zUz gl G T s.l t1 x1 e1 i1 hs.1 hl.1 st;have h2:=λst=>zUz gl G T s.r t2 x2 e2 i2 hs.2 hl.2 st;unfold SetS;refine iI func42 ?_;simp only[go_sem,zE,zA];refine (h1 _).mono ?_;rintro _ st ⟨⟨t3,y1,rfl,e3,a3,j1⟩,rfl⟩;by_cases q1:(yZb s.l).2=0
 ·rw[if_neg (by omega)];simp only[go_sem,zE,zA,q1,show decide (((0:Nat):Int)=0)=true from rfl];refine (h2 _).mono ?_;rintro _ st ⟨⟨t4,y2,rfl,e4,a4,j2⟩,rfl⟩;by_cases q2:(yZb s.r).2=0
  ·rw[if_neg (by omega)];simp only[go_sem,zE,zA,zL,q2,show decide (((0:Nat):Int)=0)=true from rfl,fits];exact yQ0 ⟨⟨_,rfl,_,_,_,_,rfl,e3,a3,j1,e4,a4,j2⟩,rfl⟩
  ·rw[if_pos q2];simp only[go_sem,zE,zA,zL,show decide ((((yZb s.r).2:Nat):Int)=0)=false from dEf (by omega)];exact yQ0 ⟨⟨_,rfl,_,_,_,_,rfl,.inl rfl,.inl rfl,IsFmsD.nil,.inl rfl,.inl rfl,IsFmsD.nil⟩,rfl⟩
 ·rw[if_pos q1];simp only[go_sem,zE,zA,zL,show decide ((((yZb s.l).2:Nat):Int)=0)=false from dEf (by omega)];exact yQ0 ⟨⟨_,rfl,_,_,_,_,rfl,.inl rfl,.inl rfl,IsFmsD.nil,.inl rfl,.inl rfl,IsFmsD.nil⟩,rfl⟩
theorem uWv (G:Gl gl)(T:Gt gl)(s:Sq)(x:IV)(hx:IsSq s x)(hs:yKt s)(hl:s.l.length<=1099511627776/\s.r.length<=1099511627776)(st:ISt) :
  ICall prog gl 42 [x] st (λr st'=>(∃y,r=.tup [y,.raw (.int .i64 (SetS s).2)]/\IsSq (SetS s).1 y)/\st'=st) :=
 (vJt gl G T s x hx hs hl st).mono λr st' ⟨⟨y,h1,h2⟩,h3⟩=>⟨⟨y,h1,h2.w⟩,h3⟩
