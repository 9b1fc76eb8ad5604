/- Walks: the premises of a link; a move wa -/
import Derived.Test.YtigeiecfkoimpaaGreatDoorQE
import Derived.Test.YtigeiecfkoimpaaGreatDoorKG
set_option linter.all false
open Nat renaming reduceEqDiff → zE,reduceBEq → zB,reduceAdd → zA,reduceMul → zM,reduceLeDiff → zL
namespace Go.Proofs.Tryz
open Go Go.Iv
set_option maxRecDepth 4000
variable (gl:Nat->Option IV)
def i32I (l:List Nat):List IV:=l.map λn:Nat=>.raw (.int .i32 (n:Int))
def Gp {l:List Nat}{i n:Nat}(h:l[i]?=some n):(i32I l)[i]?=some (.raw (.int .i32 (n:Int))):=by simp[i32I,h]
def sw (l:List Nat):(i32I l).length=l.length:=by simp[i32I]
def to_c (k:Lk)(x:IV)(E:IsLk k x)(G:k.2.2.length<=2)(st:ISt):ICall prog gl 94 [x] st (λr st'=>(∃t,r=.sl t (i32I k.2.2)/\okEs t 1)/\st'=st):=by
 obtain⟨p,q,rfl,D⟩:=E;refine ICall.intro (c:=cf prog gl [] [] [1]) func94 rfl (by show _<=7;simp) (by kernel_rfl) ?_;simp only[go_sem,zE,zB,zA,zL,fits,y_ G];have e:i32I k.2.2=List.take k.2.2.length [.raw (.int .i32 (p:Int)),.raw (.int .i32 (q:Int))]:=by
  conv=>lhs;rw[D]
  simp[i32I,List.map_take]
 rw[<- e];exact c_ ⟨⟨_,rfl,.inr rfl⟩,rfl⟩
def u8J (l:List Nat):List IV:=l.map λn:Nat=>.raw (.int .u8 (n:Int))
def zX {l:List Nat}{i n:Nat}(h:l[i]?=some n):(u8J l)[i]?=some (.raw (.int .u8 (n:Int))):=by simp[u8J,h]
def vA (l:List Nat):(u8J l).length=l.length:=by simp[u8J]
def Gq (l:List Nat)(i n:Nat):(u8J l).set i (.raw (.int .u8 (n:Int)))=u8J (l.set i n):=by simp[u8J,jd]
def Gr (l:List Nat)(i n:Nat):(dO l).set i (n:Int)=dO (l.set i n):=by simp[dO,jd]
def oT {cs:List IV}{k:Nat}{y:IV}(h:k<cs.length):fu cs k [y]=cs.set k y:=by
 unfold fu;rw[List.set_eq_take_append_cons_drop,cX h];simp
abbrev slG (g n:Nat):IV:=.raw (.slice (some ⟨g,0,none⟩) n n)
def rwsI (gs:List Nat)(ws:List (List Nat)):List IV:=List.zipWith (λg w=>slG g w.length) gs ws
structure Mem (gW gH rb n:Nat)(pre:List IV)(gs:List Nat)(st:ISt)(hs:List Nat)(ws:List (List Nat)):Prop where
 rbx:st rb=some (.box (pre++[slG gH n]))
 hts:st gH=some (.box (dO hs))
 hl:hs.length=n
 wts:st gW=some (.box (rwsI gs ws++List.replicate (n-gs.length) (.sl ⟨true,.nil,0⟩ [])))
 gll:gs.length=ws.length
 row:∀(k g:Nat) (w:List Nat),gs[k]?=some g->ws[k]?=some w->st g=some (.box (u8J w))
 nd:(gW::gH::rb::gs).Nodup
 small:∀w∈ws,∀x∈w,x<256
def zY {gs:List Nat}{ws:List (List Nat)}{k g:Nat}{w:List Nat}(h1:gs[k]?=some g)(h2:ws[k]?=some w):(rwsI gs ws)[k]?=some (slG g w.length):=by
 unfold rwsI;rw[List.getElem?_zipWith,h1,h2]
end Go.Proofs.Tryz
namespace Go.Proofs.Tryz
open Go Go.Iv
def IsUs (u:Us)(y:IV):Prop:=y=.agg [.raw (.int .i32 (u.1:Int)),.raw (.int .i32 (u.2:Int))]
structure Usr (gU:Nat)(S0 st:ISt)(us:List (List Us)):Prop where
 ex:∃cells,st gU=some (.box cells)/\cells.length=us.length/\(∀(p:Nat) (l:List Us),us[p]?=some l->∃t ys,cells[p]?=some (.sl t ys)/\AllR IsUs l ys/\own st t l.length 2 S0) /\
  ∀(p q:Nat) (t t':Tag) (ys ys':List IV) (g:Nat),cells[p]?=some (.sl t ys)->cells[q]?=some (.sl t' ys')->t.cap=.app g->t'.cap=.app g->p=q
def qH {st:ISt}{D:Tag}{n s g:Nat}{S0:ISt}(h:own st D n s S0)(hc:D.cap=.app g):st g=some (.front n s):=by
 rcases h with⟨_,h⟩|rfl|⟨E,rfl,h,_⟩
 ·rw[h] at hc;cases hc
 ·cases hc
 ·cases hc;exact h
def nmem {x g:Nat}{l:List Nat}(h:x ∉ l)(D:g∈l):x≠g:=λe=>h (by rw[e];exact D)
structure PS (gU gW gH rb n:Nat)(pre:List IV)(S0:ISt)(gs:List Nat)(st:ISt)(hs:List Nat)(ws:List (List Nat))(us:List (List Us)):Prop where
 mem:Mem gW gH rb n pre gs st hs ws
 usr:Usr gU S0 st us
 base:subSt S0 st
 off:S0 gU=none/\S0 gW=none/\S0 gH=none/\S0 rb=none/\∀g∈gs,S0 g=none
 gu:gU ∉ gW::gH::rb::gs
 ul:us.length=n
section
variable {gU gW gH rb n:Nat}{pre:List IV}{S0:ISt}{gs:List Nat}{st:ISt}{hs:List Nat}{ws:List (List Nat)}{us:List (List Us)}
def Usr.keep {st':ISt}(h:Usr gU S0 st us)(h1:st' gU=st gU)(h2:∀g k,st g=some (.front k 2)->st' g=st g):Usr gU S0 st' us:=by
 obtain⟨cells,c1,c2,c3,c4⟩:=h.ex;refine⟨cells,h1.trans c1,c2,λp l hp=>?_,c4⟩;obtain⟨t,ys,J,G,E⟩:=c3 p l hp;exact⟨t,ys,J,G,E.mono λg D _=>(h2 g _ D).trans D⟩
def Mem.keep {st':ISt}(h:Mem gW gH rb n pre gs st hs ws)(D:∀b cs,st b=some (.box cs)->b∈gW::gH::rb::gs->st' b=some (.box cs)):Mem gW gH rb n pre gs st' hs ws :=
 ⟨D _ _ h.rbx (by simp),D _ _ h.hts (by simp),h.hl,D _ _ h.wts (by simp),h.gll,λk g w E G=>D _ _ (h.row k g w E G) (by simp[lMg E]),h.nd,h.small⟩
def Mem.ne (h:Mem gW gH rb n pre gs st hs ws):gW≠gH/\gW≠rb/\gW ∉ gs/\gH≠rb/\gH ∉ gs/\rb ∉ gs/\gs.Nodup:=by
 have:=h.nd;simp only[gN,dF,not_or] at this;obtain⟨⟨a,b,c⟩,⟨d,e⟩,f,g⟩:=this;exact⟨a,b,c,d,e,f,g⟩
def PS.une (h:PS gU gW gH rb n pre S0 gs st hs ws us):gU≠gW/\gU≠gH/\gU≠rb/\gU ∉ gs:=by
 have:=h.gu;simp only[dF,not_or] at this;exact this
def qI {st:ISt}{b:Nat}{cs:List IV}{o:Option IObj}(E:st b=some (.box cs)){g k s:Nat}(D:st g=some (.front k s)):(st.put b o) g=st g:=by
 rw[dz];rintro rfl;rw[E] at D;cases D
def PS.setH (h:PS gU gW gH rb n pre S0 gs st hs ws us)(i v:Nat):PS gU gW gH rb n pre S0 gs (st.put gH (some (.box (dO (hs.set i v))))) (hs.set i v) ws us:=by
 obtain⟨a,b,c,d,e,f,g⟩:=h.mem.ne;obtain⟨u1,G,u3,O⟩:=h.une;refine⟨⟨by rw[dz d.symm];exact h.mem.rbx,b_ ..,by rw[kA];exact h.mem.hl,by rw[dz a];exact h.mem.wts,h.mem.gll,λk E w D J=>?_,h.mem.nd,h.mem.small⟩,
  h.usr.keep (dz G) λE k D=>qI h.mem.hts D,eG h.base h.off.2.2.1,h.off,h.gu,h.ul⟩
 rw[dz (nmem e (lMg D)).symm];exact h.mem.row k E w D J
def PS.row (h:PS gU gW gH rb n pre S0 gs st hs ws us){g:Nat}(J:st g=none){w:List Nat}(hw:∀x∈w,x<256)(hl:gs.length<n) :
  PS gU gW gH rb n pre S0 (gs++[g]) ((st.put g (some (.box (u8J w)))).put gW (some (.box ((rwsI gs ws++List.replicate (n-gs.length) (IV.sl ⟨true,.nil,0⟩ [])).set gs.length (slG g w.length))))) hs (ws++[w]) us:=by
 obtain⟨a,b,c,d,e,f,nd⟩:=h.mem.ne;obtain⟨u1,u2,u3,u4⟩:=h.une;have G:∀b cs,st b=some (.box cs)->g≠b:=λb cs hb e=>by rw[e] at J;rw[J] at hb;cases hb
 have aa:=G _ _ h.mem.wts;have ae:=G _ _ h.mem.hts;have ac:=G _ _ h.mem.rbx;obtain⟨cells,uc,_⟩:=h.usr.ex;have ab:=G _ _ uc;have O:g ∉ gs:=λhm=>by
  obtain⟨k,hk,rfl⟩:=fR.1 hm;obtain⟨w',E⟩:=dD (l:=ws) (k:=k) (by rw[<- h.mem.gll];exact hk);exact G _ _ (h.mem.row k _ w' (dT hk) E) rfl
 have ah:(rwsI gs ws).length=gs.length:=by unfold rwsI;rw[List.length_zipWith,h.mem.gll,Nat.min_self]
 refine⟨⟨by rw[dz b.symm,dz ac.symm];exact h.mem.rbx,by rw[dz a.symm,dz ae.symm];exact h.mem.hts,h.mem.hl,?_,by simp[h.mem.gll],λk g' w' D E=>?_,?_,λw' E=>?_⟩,
  h.usr.keep (by rw[dz u1,dz ab.symm]) (λg' k D=>by rw[dz (λe=>by rw[e,h.mem.wts] at D;cases D),dz (λe=>by rw[e,J] at D;cases D)]),eG (eG h.base (j9 h.base J)) h.off.2.1,?_,?_,h.ul⟩
 ·rw[b_];congr 2;have hr:rwsI (gs++[g]) (ws++[w])=rwsI gs ws++[slG g w.length]:=by
   unfold rwsI;rw[List.zipWith_append h.mem.gll];rfl
  rw[hr,lLa,List.length_singleton,List.set_append_right _ _ (by omega),ah,fc];obtain⟨m,hm⟩:∃m,n-gs.length=m+1:=⟨n-gs.length-1,by omega⟩
  rw[hm,show n-(gs.length+1)=m by omega,List.replicate_succ,jh,et];rfl
 ·rcases fN k gs.length with hk|hk
  ·rw[fg hk] at D;rw[fg (by rw[<- h.mem.gll];exact hk)] at E;have hm:=lMg D;rw[dz (nmem c hm).symm,dz (nmem O hm).symm];exact h.mem.row k g' w' D E
  ·have ai:k=gs.length:=by
    have:=(lGs D).1;rw[lLa,List.length_singleton] at this;omega
   subst ai;rw[fD (dG _),fc] at D;rw[h.mem.gll,fD (dG _),fc] at E;cases D;cases E;rw[dz aa,b_]
 ·simp only[gN,dF,dQ,fJ,eU,not_or];exact⟨⟨a,b,c,aa.symm⟩,⟨d,e,ae.symm⟩,⟨f,ac.symm⟩,lE.2 ⟨nd,by simp,λx ag y hy=>by rw[dR.1 hy];rintro rfl;exact O ag⟩⟩
 ·rcases dQ.1 E with hm|hm
  ·exact h.mem.small w' hm
  ·rw[dR.1 hm];exact hw
 ·refine⟨h.off.1,h.off.2.1,h.off.2.2.1,h.off.2.2.2.1,λg' D=>?_⟩;rcases dQ.1 D with hm|hm
  ·exact h.off.2.2.2.2 g' hm
  ·rw[dR.1 hm];exact j9 h.base J
 ·simp only[dF,dQ,fJ,eU,not_or];exact⟨u1,u2,u3,u4,ab.symm⟩
def PS.setW (h:PS gU gW gH rb n pre S0 gs st hs ws us){i g:Nat}{w:List Nat}(hg:gs[i]?=some g)(G:ws[i]?=some w)(j:Nat){v:Nat}(hv:v<256) :
  PS gU gW gH rb n pre S0 gs (st.put g (some (.box (u8J (w.set j v))))) hs (ws.set i (w.set j v)) us:=by
 obtain⟨a,b,c,d,e,f,nd⟩:=h.mem.ne;obtain⟨u1,u2,u3,u4⟩:=h.une;have O:=lMg hg;have J:rwsI gs (ws.set i (w.set j v))=rwsI gs ws:=by
  unfold rwsI;refine km λk=>?_;rw[List.getElem?_zipWith,List.getElem?_zipWith,gy];by_cases e:i=k
  ·subst e;rw[cX rfl,cX (lGs G).1,G,hg];simp
  ·rw[a_ e]
 refine⟨⟨by rw[dz (nmem f O)];exact h.mem.rbx,by rw[dz (nmem e O)];exact h.mem.hts,h.mem.hl,by rw[J,dz (nmem c O)];exact h.mem.wts,by rw[kA];exact h.mem.gll,λk g' w' E D=>?_,h.mem.nd,λw' D x hx=>?_⟩,
  h.usr.keep (dz (nmem u4 O)) (λg' k E=>qI (h.mem.row i g w hg G) E),eG h.base (h.off.2.2.2.2 g O),h.off,h.gu,h.ul⟩
 ·rw[gy] at D;split at D
  ·rename_i e;subst e;rw[cX (lGs G).1] at D;cases D;rw[hg] at E;cases E;exact b_ ..
  ·rename_i e;have ac:g'≠g:=λeg=>by
    subst eg;obtain⟨h1,h2⟩:=lGs hg;obtain⟨h3,h4⟩:=lGs E;exact e ((List.getElem_inj nd).1 (h2.trans h4.symm))
   rw[dz ac];exact h.mem.row k g' w' E D
 ·rcases List.mem_or_eq_of_mem_set D with D|rfl
  ·exact h.mem.small w' D x hx
  ·rcases List.mem_or_eq_of_mem_set hx with hx|rfl
   ·exact h.mem.small w (lMg G) x hx
   ·exact hv
def PS.addU (h:PS gU gW gH rb n pre S0 gs st hs ws us){p:Nat}{l:List Us}{u:Us}{y:IV}(hy:IsUs u y)(hp:us[p]?=some l){cells ys:List IV}{t D:Tag}{st':ISt}(hc:st gU=some (.box cells))(ht:cells[p]?=some (.sl t ys))(af:own st' D (l.length+1) 2 S0)(ae:subSt S0 st')
  (J:∀b o,st b=some o->t.cap≠.app b->st' b=some o) (ag:∀g,D.cap=.app g->t.cap=.app g\/st g=none) :
  PS gU gW gH rb n pre S0 gs (st'.put gU (some (.box (cells.set p (.sl D (ys++[y])))))) hs ws (us.set p (l++[u])):=by
 obtain⟨ak,c1,c2,c3,c4⟩:=h.usr.ex;rw[hc] at c1;cases c1;obtain⟨t0,aC,k1,k2,k3⟩:=c3 p l hp;rw[ht] at k1;cases k1;have O:∀b cs,st b=some (.box cs)->st' b=some (.box cs):=λb cs hb=>J b _ hb λe=>by
  rw[qH k3 e] at hb;cases hb
 have ac:p<cells.length:=(lGs ht).1;have al:=O _ _ hc;refine⟨h.mem.keep λb cs hb hm=>by rw[dz (nmem h.gu hm).symm];exact O b cs hb,⟨_,b_ ..,by rw[kA,kA];exact c2,λq l' E=>?_,λq q' t1 t2 y1 G g h1 h2 h3 h4=>?_⟩,eG ae h.off.1,h.off,h.gu,by rw[kA];exact h.ul⟩
 ·have aa:∀ {t2:Tag} {m:Nat},own st' t2 m 2 S0->own (st'.put gU (some (.box (cells.set p (.sl D (ys++[y])))))) t2 m 2 S0:=λho=>ho.mono λg hg _=>by
   rw[dz λe=>by rw[e,al] at hg;cases hg];exact hg
  rw[gy] at E ⊢;split at E
  ·rename_i e;subst e;rw[cX (lGs hp).1] at E;cases E;exact⟨D,_,by rw[cX ac,cX rfl],k2.snoc hy,by rw[lLa];exact aa af⟩
  ·rename_i e;rw[a_ e];obtain⟨t2,G,g1,g2,g3⟩:=c3 q l' E;refine⟨t2,G,g1,g2,aa ?_⟩;rcases g3 with hz|rfl|⟨g',rfl,aq,ao⟩
   ·exact .inl hz
   ·exact .inr (.inl rfl)
   ·exact .inr (.inr ⟨g',rfl,J g' _ aq λe2=>e (c4 p q t _ ys _ g' ht g1 e2 rfl),ao⟩)
 ·have key:∀(q:Nat) (t2:Tag) (G:List IV) (g:Nat),q≠p->cells[q]?=some (.sl t2 G)->t2.cap=.app g->D.cap=.app g->False:=λq t2 G g am E ai ax=>by
   rcases ag g ax with h0|h0
   ·exact am (c4 q p t2 t G ys g E ht ai h0)
   ·obtain⟨lq,an⟩:=dD (l:=us) (k:=q) (by rw[<- c2];exact (lGs E).1);obtain⟨t3,y3,g1,_,g3⟩:=c3 q lq an;rw[E] at g1;cases g1;rw[qH g3 ai] at h0;cases h0
  rw[gy] at h1 h2;by_cases e1:p=q
  ·by_cases e2:p=q'
   ·exact e1.symm.trans e2
   ·subst e1;rw[cX rfl,cX ac] at h1;rw[a_ e2] at h2;cases h1;exact (key q' t2 G g (λe=>e2 e.symm) h2 h4 h3).elim
  ·rw[a_ e1] at h1;by_cases e2:p=q'
   ·subst e2;rw[cX rfl,cX ac] at h2;cases h2;exact (key q t1 y1 g (λe=>e1 e.symm) h1 h3 h4).elim
   ·rw[a_ e2] at h2;exact c4 q q' t1 t2 y1 G g h1 h2 h3 h4
def PS.far (h:PS gU gW gH rb n pre S0 gs st hs ws us){tg:Tag}{m:Nat}{st':ISt}(ho:own st tg m 1 S0)(G:subSt S0 st')(D:∀b o,st b=some o->tg.cap≠.app b->st' b=some o):PS gU gW gH rb n pre S0 gs st' hs ws us:=by
 have E:∀b cs,st b=some (.box cs)->st' b=some (.box cs):=λb cs J=>D b _ J λe=>by
  rw[qH ho e] at J;cases J
 obtain⟨cells,c1,_⟩:=h.usr.ex;exact⟨h.mem.keep λb cs J _=>E b cs J,h.usr.keep ((E _ _ c1).trans c1.symm) λg k O=>(D g _ O λe=>by rw[qH ho e] at O;cases O).trans O.symm,G,h.off,h.gu,h.ul⟩
end
end Go.Proofs.Tryz
namespace Go.Proofs.Tryz
open Go Go.Iv
set_option maxRecDepth 4000
variable (gl:Nat->Option IV)
def Gs {ws:List (List Nat)}{u:Us}{w:List Nat}{x:Nat}(G:ws[u.1]?=some w)(E:w[u.2]?=some x):decW ws u=ws.set u.1 (w.set u.2 ((x+255)%256)):=by
 unfold decW;have D:∀ {α:Type} (l:List α) (i:Nat) (f:α->α) (a:α),l[i]?=some a->l.modify i f=l.set i (f a):=λl i f a h=>by
  refine km λk=>?_;rw[List.getElem?_modify,gy];by_cases e:i=k
  ·subst e;simp only[dJ,cX (lGs h).1,h];rfl
  ·simp[e]
 rw[D _ _ _ _ G,D _ _ _ _ E]
def OX {x:Nat}(h:x<256):IntKind.u8.wrap ((x:Int)-1)=(((x+255)%256:Nat):Int):=by
 have:∀y:Fin 256,IntKind.u8.wrap ((y.val:Int)-1)=(((y.val+255)%256:Nat):Int):=by decide
 exact this ⟨x,h⟩
def OY (gU gW gH rb n:Nat)(p1 p2 p3 p4:IV)(S0:ISt)(gs hs:List Nat)(ws:List (List Nat))(us:List (List Us))(u:Us)(st:ISt)(hP:PS gU gW gH rb n [p1,p2,p3,p4] S0 gs st hs ws us)(w:List Nat)(hw:ws[u.1]?=some w)(x:Nat)(hx:w[u.2]?=some x)(h:Nat)(hh:hs[u.1]?=some h) :
  ICall prog gl 95 [.agg [.raw (.int .i32 (u.1:Int)),.raw (.int .i32 (u.2:Int))],.cptr (slG gW n),.cptr (ptr rb)] st
   (λr st'=>r=(decide ((x+255)%256=0/\h=0):Bool)/\PS gU gW gH rb n [p1,p2,p3,p4] S0 gs st' hs (decW ws u) us/\∀g k s,st g=some (.front k s)->st' g=some (.front k s)):=by
 have hM:=hP.mem;obtain⟨g,hg⟩:=dD (l:=gs) (k:=u.1) (by rw[hM.gll];exact (lGs hw).1);have ac:=hM.row _ _ _ hg hw;have af:=(lGs hx).1;have an:x<256:=hM.small w (lMg hw) x (lMg hx);have hn:u.1<n:=by rw[<- hM.hl];exact (lGs hh).1
 have ah:g∈gs:=lMg hg;obtain⟨d1,d2,d3,d4,d5,d6,d7⟩:=hM.ne;have eW:gW≠g:=λe=>d3 (e▸ah);have eH:gH≠g:=λe=>d5 (e▸ah);have eR:rb≠g:=λe=>d6 (e▸ah);have ao:(rwsI gs ws++List.replicate (n-gs.length) (IV.sl ⟨true,.nil,0⟩ []))[u.1]?=some (slG g w.length):=by
  have:=zY hg hw;rw[fg (lGs this).1];exact this
 refine ICall.intro (c:=cf prog gl [9,13,20,24,30,34] []) func95 rfl (by show _<=37;simp) (by kernel_rfl) ?_;simp only[go_sem,zE,fits,nt,IV.one,ew,dY,iNn,hn,hM.wts,ao,ac,af,zX hx,OX an];have al:List.take u.2 (u8J w)++[.raw (.int .u8 (((x+255)%256:Nat):Int))]++List.drop (u.2+1) (u8J w)=u8J (w.set u.2 ((x+255)%256)):=by
  rw[<- Gq,<- oT (by rw[vA];exact af)];rfl
 rw[cX (by rw[vA];omega),al];have G:=hP.setW hg hw u.2 (v:=(x+255)%256) (Nat.mod_lt _ (by decide));rw[<- Gs hw hx] at G;have ag:(decW ws u)[u.1]?=some (w.set u.2 ((x+255)%256)):=by rw[Gs hw hx,gy,cX rfl,cX (lGs hw).1]
 have D:(w.set u.2 ((x+255)%256))[u.2]?=some ((x+255)%256):=by rw[gy,cX rfl,cX af]
 have ai:∀g' k s,st g'=some (.front k s)->(st.put g (some (.box (u8J (w.set u.2 ((x+255)%256)))))) g'=some (.front k s):=λg' k s am=>(qI ac am).trans am;generalize st.put g (some (.box (u8J (w.set u.2 ((x+255)%256)))))=az at G ai ⊢;generalize w.set u.2 ((x+255)%256)=w2 at ag D;generalize (x+255)%256=v at D ⊢;have J:=G.mem;have E:=J.row _ _ _ hg ag;have O:=(lGs D).1;have aa:(rwsI gs (decW ws u)++List.replicate (n-gs.length) (IV.sl ⟨true,.nil,0⟩ []))[u.1]?=some (slG g w2.length):=by
  have:=zY hg ag;rw[fg (lGs this).1];exact this
 have ae:=J.rbx;simp only[eu,fa] at ae;by_cases hv:v=0
 ·subst hv;simp only[go_sem,zE,zA,fits,nt,IV.one,ew,dY,iNn,hn,J.wts,aa,E,O,zX D,ae,J.hts,kW hh,show decide (((0:Nat):Int)=0)=true from rfl];exact c_ ⟨by rw[show decide ((h:Int)=0)=decide (h=0) by rw[fH];omega],G,ai⟩
 ·have aq:decide ((v:Int)=0)=false:=dEf (by omega);simp only[go_sem,zE,dY,J.wts,aa,E,O,zX D,aq];exact c_ ⟨by rw[show decide (v=0/\h=0)=false from dEf λe=>hv e.1],G,ai⟩
def oh {S:ISt}{b:Nat}{x y:Option IObj}(h:S b=none):((S.put b x).put b y).put b none=S:=by
 funext c;simp only[ISt.put_apply];split
 ·rename_i e;rw[e,h]
 ·rfl
def PS.start {gU gW gH rb n:Nat}{p1 p2 p3 p4:IV}{S0 st:ISt}(ak:st gH=none)(ag:rb≠gH)(E:S0 rb=none)(ae:rb≠gU)(af:gU≠gH)(aj:st gU=none)(aa:gW≠gU)(ab:rb≠gW)(ac:gW≠gH)(ai:st gW=none)(D:subSt S0 st) :
  PS gU gW gH rb n [p1,p2,p3,p4] S0 [] ((((st.put gH (some (.box (List.replicate n (0:Int))))).put rb (some (.box [p1,p2,p3,p4,slG gH n]))).put gU (some (.box (List.replicate n ())))).put gW (some (.box (List.replicate n ()))))
   (List.replicate n 0) [] (List.replicate n []):=by
 have O:=j9 D ak;have J:=j9 D aj;have G:=j9 D ai;refine⟨⟨by rw[dz ab,dz ae,b_];rfl,by rw[dz ac.symm,dz af.symm,dz ag.symm,b_];simp[dO],gA,by rw[b_];simp[rwsI],rfl,λk g w h=>by simp at h,?_,λw h=>by cases h⟩,
  ⟨_,by rw[dz aa.symm,b_],by simp,λp l hp=>?_,λp q t t' ys al g h1 _ h3=>?_⟩,eG (eG (eG (eG D O) E) J) G,⟨J,G,O,E,λg h=>by cases h⟩,?_,gA⟩
 ·simp only[gN,dF,fJ,eU,not_or,nFt,jg,and_true];exact⟨⟨ac,ab.symm⟩,ag.symm⟩
 ·rw[lB] at hp ⊢;split at hp
  ·rename_i ah;cases hp;rw[cX ah];exact⟨_,_,rfl,AllR.nil,own.nil ..⟩
  ·cases hp
 ·rw[lB] at h1;split at h1
  ·cases h1;cases h3
  ·cases h1
 ·simp only[dF,fJ,eU,not_or];exact⟨aa.symm,af,ae.symm⟩
def HtOk (cl:Nat->Prop)(i:Nat)(hs:List Nat):Prop:=∀(k x:Nat),hs[k]?=some x->(k<i->(x=1/\cl k)\/(x=0/\¬ cl k))/\(i<=k->x=0)
def OZ (cl:Nat->Prop)(n:Nat):HtOk cl 0 (List.replicate n 0):=λk x D=>by
 rw[lB] at D;split at D
 ·cases D;exact⟨λh=>absurd h (Nat.not_lt_zero _),λ_=>rfl⟩
 ·cases D
def NwOk (hs D:List Nat):Prop:=(∀k,k∈D↔hs[k]?=some 1)/\D.Nodup
def HtOk.one {cl:Nat->Prop}{i:Nat}{hs:List Nat}(h:HtOk cl i hs)(hc:cl i):HtOk cl (i+1) (hs.set i 1):=λk x D=>by
 rw[gy] at D;split at D
 ·rename_i e;subst e;split at D
  ·cases D;exact⟨λ_=>.inl ⟨rfl,hc⟩,λh=>by omega⟩
  ·cases D
 ·rename_i e;obtain⟨h1,h2⟩:=h k x D;exact⟨λE=>h1 (by omega),λG=>h2 (by omega)⟩
def HtOk.zero {cl:Nat->Prop}{i:Nat}{hs:List Nat}(h:HtOk cl i hs)(hc:¬ cl i):HtOk cl (i+1) hs:=λk x E=>by
 obtain⟨h1,h2⟩:=h k x E;refine⟨λD=>?_,λG=>h2 (by omega)⟩;by_cases e:k=i
 ·subst e;exact .inr ⟨h2 (dG _),hc⟩
 ·exact h1 (by omega)
def NwOk.add {hs D:List Nat}{i:Nat}(h:NwOk hs D)(G:hs[i]?=some 0):NwOk (hs.set i 1) (D++[i]):=by
 have E:i ∉ D:=λJ=>by have:=(h.1 i).1 J;rw[G] at this;cases this
 refine⟨λk=>?_,lE.2 ⟨h.2,by simp,λa ha b O=>by rw[dR.1 O];rintro rfl;exact E ha⟩⟩;rw[dQ,dR,gy];by_cases e:i=k
 ·subst e;rw[cX rfl,cX (lGs G).1];simp
 ·rw[a_ e,h.1 k];exact⟨λh=>h.resolve_right λh=>e h.symm,.inl⟩
def NwOk.len {hs D:List Nat}(h:NwOk hs D):D.length<=hs.length:=by
 have:=qw (b:=List.range hs.length) h.2 λx E=>jK.2 (lGs ((h.1 x).1 E)).1
 rwa [List.length_range] at this
def Gu {p:Nat}:∀(l:List Us) (E:List (Nat×Us)),(∀u,l.count u<=E.count (p,u))->l.length<=E.length
 | [],_,_=>ed _
 | a::l,E,h=>by
  have J:=h a;rw[List.count_cons_self] at J;have G:(p,a)∈E:=lz.1 (by omega);have:=Gu (p:=p) l (E.erase (p,a)) λu=>by
   have D:=h u;rw[List.count_erase];by_cases e:a=u
   ·subst e;rw[List.count_cons_self] at D;rw[cX (by simp)];omega
   ·rw[List.count_cons_of_ne e] at D;rw[a_ (by simp[e])];omega
  rw[List.length_erase_of_mem G] at this;have:=List.length_pos_of_mem G;rw[dX];omega
def UsOk.len {us:List (List Us)}{E:List (Nat×Us)}(h:UsOk us E){p:Nat}{l:List Us}(hp:us[p]?=some l):l.length<=E.length :=
 Gu (p:=p) l E λu=>by rw[<- h p u];unfold usAt;rw[hp];exact dG _
def zZ {α β:Type}{F:α->List β}{c:Nat}:∀ {l:List α},(∀x∈l,(F x).length<=c)->(l.flatMap F).length<=c*l.length
 | [],_=>by simp
 | a::l,h=>by
  have h1:=h a (.head _);have h2:=zZ (l:=l) λx D=>h x (.tail _ D);rw[eo,lLa,dX,Nat.mul_add,ew];omega
def Gv {i:Nat}{l:List Lk}(h:∀k∈l,k.2.2.length<=2):(evL i l).length<=2*l.length:=by
 have:=zZ (F:=λD:Lk×Nat=>evK (i,D.2) D.1.2.2) (c:=2) (l:=l.zipIdx) λx E=>by
  unfold evK;rw[dP];exact h _ (List.fst_mem_of_mem_zipIdx E)
 rwa [List.length_zipIdx] at this
def Gw {links:List (List Lk)}(h:∀l∈links,l.length<=16000000/\∀k∈l,k.2.2.length<=2):(evA links).length<=32000000*links.length:=by
 have:=zZ (F:=λD:List Lk×Nat=>evL D.2 D.1) (c:=32000000) (l:=links.zipIdx) λx E=>by
  obtain⟨h1,h2⟩:=h _ (List.fst_mem_of_mem_zipIdx E);have:=Gv (i:=x.2) h2;omega
 rwa [List.length_zipIdx] at this
def RdS (links:List (List Lk))(hs:List Nat)(S:Ss):Prop:=S.1.count 0+S.2.2.length=hs.count 0/\∀u,lkAt links u≠[]->∃x,atW S.2.1 u=some x
def RdS.step {links:List (List Lk)}{hs:List Nat}{S:Ss}(h:RdS links hs S){H:Nat}(G:0<H)(u:Us):RdS links hs (gv H S u):=by
 have E:(gv H S u).2.1=decW S.2.1 u:=by unfold gv;split<;>rfl
 refine⟨?_,λv hv=>?_⟩
 ·unfold gv;split
  ·rename_i hc;obtain⟨h1,h2⟩:=lGs hc.2;have:=List.count_set (a:=H) (b:=0) h1;have hp:0<S.1.count 0:=lz.2 (by rw[<- h2];exact jI h1);have J:=h.1;simp only[lLa,List.length_singleton];rw[this,h2,cX (by simp),a_ (by simp;omega)];omega
  ·exact h.1
 ·obtain⟨x,D⟩:=h.2 v hv;rw[E,qD];split
  ·exact⟨_,by rw[D];rfl⟩
  ·exact⟨x,D⟩
def rowJ (l:List Lk)(j:Nat):List Nat:=(l.take j).map (λk=>k.2.2.length)++List.replicate (l.length-j) 0
def O0 (l:List Lk):rowJ l 0=List.replicate l.length 0:=by simp[rowJ]
def O1 (l:List Lk){j:Nat}(h:j<=l.length):(rowJ l j).length=l.length:=by
 unfold rowJ;rw[lLa,dP,dU,gA];omega
def O2 (l:List Lk):rowJ l l.length=l.map λk=>k.2.2.length:=by simp[rowJ]
def Gx {l:List Lk}{j:Nat}{k:Lk}(h:l[j]?=some k):(rowJ l j).set j k.2.2.length=rowJ l (j+1):=by
 have E:=(lGs h).1;unfold rowJ;rw[dM h,eQ];have h1:((l.take j).map λk:Lk=>k.2.2.length).length=j:=by rw[dP,dU];omega
 rw[List.set_append_right _ _ (by omega),h1,fc];obtain⟨m,D⟩:∃m,l.length-j=m+1:=⟨l.length-j-1,by omega⟩
 rw[D,show l.length-(j+1)=m by omega,List.replicate_succ,jh,et];rfl
def O3 (ca m:Nat)(W:List Fm)(hS:SpOk ca W)(tw:Tag)(xw:List IV)(cG:okEs tw 4)(cw:IsFms W xw)(cU:W.length<=200000)(lines:List Ln)(links:List (List Lk))(hA:LksAll ca W lines links)(c7:lines.length<=20000)
  (tl tk:Tag) (xl xk:List IV) (mN rb:Nat) (bD:AllR IsLn lines xl) (bG:AllR vu links xk) (htl:okEs tl 2) (cJ:okEs tk 1) (S0 st:ISt)
  (aU:st rb=some (.box [spI ca tw xw m,.sl tl xl,.raw (.map (some mN)),.sl tk xk,()])) (h0:S0 rb=none) (bL:subSt S0 st) :
  ICall prog gl 69 [ptr rb] st (λr st'=>r=.tup []/\∃gH hs,st' rb=some (.box [spI ca tw xw m,.sl tl xl,.raw (.map (some mN)),.sl tk xk,slG gH lines.length])/\st' gH=some (.box (dO hs)) /\
   hs.length=lines.length/\(∀i x,hs[i]?=some x->LstG (clL W lines) links i x)/\subSt S0 st'):=by
 have bC:=bD.1;have aW:=bG.1;have hll:=hA.len;refine ke (t:=3) (n:=4) (c:=cf prog gl [25,3,56,60,96,152,3000027,3000035,3000041,3000084] [(8,[0,1,2,4,5,6,8,16,3,7,9,10,11,12,13,14,15,17,18,19])] [1]) func69 rfl (by show _<=165;simp) (by show _<165;simp) (by kernel_rfl) ?_;simp only[go_sem,zE,zA,zL,fits,aU];refine fO ⟨by omega,by omega,by omega⟩ λgH=>d_ λbZ=>fO rfl ?_;have cd:rb≠gH:=λe=>by rw[e,bZ] at aU;cases aU
 rw[dz cd,aU];simp only[go_sem,zA,zL];intro _;refine fO ⟨by omega,by omega,by omega⟩ λgU=>d_ λaq=>?_;have br:rb≠gU:=λe=>by rw[<- e,b_] at aq;cases aq
 rw[dz br.symm] at aq;have cc:gU≠gH:=λe=>by rw[e,b_] at aq;cases aq
 rw[dz cc] at aq;rw[dz br];simp only[go_sem,b_];intro _;refine fO ⟨by omega,by omega,by omega⟩ λgW=>d_ λac=>?_;have b8:gW≠gU:=λe=>by rw[e,b_] at ac;cases ac
 rw[dz b8] at ac;have b9:rb≠gW:=λe=>by rw[<- e,b_] at ac;cases ac
 rw[dz b9.symm] at ac;have cb:gW≠gH:=λe=>by rw[e,b_] at ac;cases ac
 rw[dz cb] at ac;refine λb3=>d_ λcS=>fO rfl ?_;refine⟨b3,slG gW xl.length,by simp only[go_sem],b_ ..,?_⟩;rw[oh cS,show age (slG gW xl.length)=slG gW xl.length by simp only[age]];rw[bC];have bq:=PS.start (n:=lines.length) (p1:=spI ca tw xw m) (p2:=.sl tl xl) (p3:=.raw (.map (some mN))) (p4:=.sl tk xk) bZ cd h0 br cc aq b8 b9 cb ac bL;generalize ((((st.put gH (some (.box (List.replicate lines.length (0:Int))))).put rb (some (.box [spI ca tw xw m,.sl tl xl,.raw (.map (some mN)),.sl tk xk,slG gH lines.length]))).put gU (some (.box (List.replicate lines.length ())))).put gW (some (.box (List.replicate lines.length ()))))=c9 at bq ⊢;have a1:=bq.mem.rbx;simp only[eu,fa] at a1;have av:∀l∈links,l.length<=16000000:=λl cL=>by
  obtain⟨i,hi,rfl⟩:=fR.1 cL;obtain⟨ln,az,hs⟩:=hA.done i _ (dT hi);rcases hs with⟨_,h0⟩|⟨_,vs,cD,bj⟩
  ·rw[h0];exact ed _
  ·have:=zK hS cU (hA.ok ln (lMg az));rw[cD,dP] at this;rw[bj.1];exact this
 simp only[go_sem,zE,fits,a1];intro _;refine dt xk.length (λi fr st' ds=>(∃gs hs us tn D,PS gU gW gH rb lines.length [spI ca tw xw m,.sl tl xl,.raw (.map (some mN)),.sl tk xk] S0 gs st' hs (wsOf (links.take i)) us/\UsOk us (evA (links.take i))/\own st' tn D.length 1 S0/\fr 4=.iv (.sl tn (i32I D))/\HtOk (clL W lines) i hs/\NwOk hs D) /\
  fr 1=.iv (.cptr (ptr rb))/\fr 2=(slG gU lines.length)/\fr 3=.iv (.cptr (slG gW lines.length))/\fr 45=.iv (.sl tk xk)/\fr 46=xk.length/\fr 47=(i:Int)/\ds=[]) ?_ ?_ ?_
 ·simp only[go_sem,zE];exact⟨⟨[],_,_,⟨true,.nil,0⟩,[],bq,UsOk.nil _,own.nil ..,rfl,OZ _ _,⟨λk=>by rw[lB];split<;>simp,jg⟩⟩,rfl⟩
 ·rintro i fr aS _ bR ⟨⟨gs,hs,us,tn,D,G,hU,E,f4,hH,hN⟩,f1,f2,f3,f45,f46,f47,rfl⟩;have cO:i<links.length:=by omega
  obtain⟨l,hl⟩:=dD cO;obtain⟨ln,az⟩:=dD (show i<lines.length by omega);have a6:=hA.ok ln (lMg az);obtain⟨_,cy,tL,yL,rfl,cK,bB⟩:=bG.2 i l hl;obtain⟨z,ct,hz⟩:=bD.2 i ln az;have cT:=λst=>zJ gl ca m W hS tw xw cG cw ln a6 z hz st;obtain⟨ta,tb,rfl,ea,eb⟩:=hz;have aG:=G.mem.rbx;simp only[eu,fa] at aG;simp only[go_sem,zE,zB,zA,f1,f45,f46,f47,lt_i bR,dB cJ,dB htl,iNn,cy,ct,aG,fits,IV.one];refine (cT _).mono ?_;rintro _ aS ⟨⟨zf,rfl,cu⟩,rfl⟩;obtain⟨y1,y2,y3,y4,y5,y6,rfl⟩:=cu.agg;have cQ:=zI (W:=W) a6.1;have a7:clL W lines i↔(axW W ln).isSome=true:=by
   rw[cQ];exact⟨λ⟨a,ha,hc⟩=>by rw[az] at ha;cases ha;exact hc,λhc=>⟨ln,az,hc⟩⟩
  simp only[go_sem,zE,zA,zL];refine zH (λfr st' ds=>(∃hs us tn D,PS gU gW gH rb lines.length [spI ca tw xw m,.sl tl xl,.raw (.map (some mN)),.sl tk xk] S0 gs st' hs (wsOf (links.take i)) us/\UsOk us (evA (links.take i))/\own st' tn D.length 1 S0/\fr 4=.iv (.sl tn (i32I D))/\HtOk (clL W lines) (i+1) hs/\NwOk hs D) /\
   fr 1=.iv (.cptr (ptr rb))/\fr 2=(slG gU lines.length)/\fr 3=.iv (.cptr (slG gW lines.length))/\fr 5=(i:Int)/\fr 6=.iv (.sl tL yL)/\fr 45=.iv (.sl tk xk)/\fr 46=xk.length/\fr 47=(i:Int)/\ds=[]) ?_ (λaT=>?_) (λaT=>?_)
  ·rintro fr bd _ ⟨⟨hs,us,tn,D,G,hU,E,f4,hH,hN⟩,f1,f2,f3,f5,f6,f45,f46,f47,rfl⟩;have aD:=bB.1;have dm:=av l (lMg hl);have ab:i<lines.length:=by omega
   have bX:gs.length=i:=by rw[G.mem.gll];unfold wsOf;rw[dP,dU];omega
   simp only[go_sem,zE,zA,f3,f5,f6,fits,IV.one,ew,iNn,ab];refine fO (by omega) λg=>d_ λhg=>?_;have bY:gW≠g:=λe=>by rw[<- e,G.mem.wts] at hg;cases hg
   have al:=G.row hg (w:=List.replicate l.length 0) (λx hx=>by rw[List.eq_of_mem_replicate hx];decide) (by omega);have aE:=G.mem.wts;rw[bX] at al aE;rw[dz bY,aE];have bN:(rwsI gs (wsOf (links.take i))++List.replicate (lines.length-i) (IV.sl ⟨true,.nil,0⟩ [])).length=lines.length:=by
    unfold rwsI;rw[lLa,List.length_zipWith,gA,<- G.mem.gll,Nat.min_self];omega
   have ak:∀y:IV,List.take i (rwsI gs (wsOf (links.take i))++List.replicate (lines.length-i) (IV.sl ⟨true,.nil,0⟩ []))++[y]++List.drop (i+1) (rwsI gs (wsOf (links.take i))++List.replicate (lines.length-i) (IV.sl ⟨true,.nil,0⟩ [])) =
     (rwsI gs (wsOf (links.take i))++List.replicate (lines.length-i) (IV.sl ⟨true,.nil,0⟩ [])).set i y:=λy=>by
    rw[<- oT (by rw[bN];exact ab)];rfl
   have b5:=al;rw[gA,<- aD] at al;simp only[u8J,List.map_replicate] at al;simp only[go_sem,bN,ak];rw[cX (show i+1<=lines.length from ab)];intro _;rw[show List.replicate yL.length 0=rowJ l 0 by rw[O0,aD]] at al;have ao:own ((bd.put g (some (.box (List.replicate yL.length (.raw (.int .u8 ((0:Nat):Int))))))).put gW (some (.box ((rwsI gs (wsOf (links.take i))++List.replicate (lines.length-i) (IV.sl ⟨true,.nil,0⟩ [])).set i (slG g yL.length))))) tn D.length 1 S0:=E.mono λg' J _=>by
    rw[dz (λe=>by rw[e,G.mem.wts] at J;cases J),dz (λe=>by rw[e,hg] at J;cases J)];exact J
   refine (?_:∀st4,PS gU gW gH rb lines.length _ S0 (gs++[g]) st4 hs (wsOf (links.take i)++[rowJ l 0]) us->own st4 tn D.length 1 S0->LoopC _ _ _ _ st4 _) _ al ao;intro st4 al ao;clear E G b5;refine dt yL.length (λj fr st' ds=>(∃us,PS gU gW gH rb lines.length [spI ca tw xw m,.sl tl xl,.raw (.map (some mN)),.sl tk xk] S0 (gs++[g]) st' hs (wsOf (links.take i)++[rowJ l j]) us/\UsOk us (evA (links.take i)++evL i (l.take j))/\own st' tn D.length 1 S0) /\
    fr 1=.iv (.cptr (ptr rb))/\fr 2=(slG gU lines.length)/\fr 3=.iv (.cptr (slG gW lines.length))/\fr 4=.iv (.sl tn (i32I D))/\fr 5=(i:Int)/\fr 45=.iv (.sl tk xk)/\fr 46=xk.length/\fr 47=(i:Int) /\
    fr 86=.iv (.sl tL yL)/\fr 87=yL.length/\fr 88=(j:Int)/\ds=[]) ?_ ?_ ?_
   ·simp only[go_sem,zE];exact⟨⟨us,al,by simpa[evL] using hU,ao⟩,f1,f2,f3,f4,f5,f45,f46,f47,rfl⟩
   ·rintro j fr ay _ bk ⟨⟨us,G,hU,E⟩,f1,f2,f3,f4,f5,f45,f46,f47,f86,f87,f88,rfl⟩;have bT:j<l.length:=by rw[<- aD];exact bk
    obtain⟨k,hk⟩:=dD bT;obtain⟨cj,bF,aX⟩:=bB.2 j k hk;obtain⟨_,cN,di,dh,cM⟩:=hA.lk hS (lMg hl) (lMg hk);have cH:=λst=>to_c gl k cj aX cN st;obtain⟨kp,kq,rfl,df⟩:=id aX;have aE:=G.mem.wts;have bm:(gs++[g])[i]?=some g:=by rw[<- bX,fD (dG _),fc];rfl
    have bH:(wsOf (links.take i)).length=i:=by unfold wsOf;rw[dP,dU];omega
    have be:(wsOf (links.take i)++[rowJ l j])[i]?=some (rowJ l j):=by rw[fD (by omega),bH,fc];rfl
    have bh:=G.mem.row i g _ bm be;have bM:=O1 l (j:=j) (by omega);have bI:(rwsI (gs++[g]) (wsOf (links.take i)++[rowJ l j])++List.replicate (lines.length-(gs++[g]).length) (IV.sl ⟨true,.nil,0⟩ []))[i]?=some (slG g (rowJ l j).length):=by
     have:=zY bm be;rw[fg (lGs this).1];exact this
    have bS:j<(rowJ l j).length:=by rw[bM];exact bT
    simp only[go_sem,zE,zB,zA,zL,f3,f5,f86,f87,f88,lt_i bk,dB cK,iNn,bF,aE,bI,bh,bS,ab,fits,IV.one,ew,dY];have aF:List.take j (u8J (rowJ l j))++[.raw (.int .u8 (k.2.2.length:Int))]++List.drop (j+1) (u8J (rowJ l j))=u8J (rowJ l (j+1)):=by
     rw[<- Gx hk,<- Gq,<- oT (by rw[vA];exact bS)];rfl
    rw[cX (by rw[vA];omega),aF];have au:=G.setW bm be j (v:=k.2.2.length) (by omega);rw[Gx hk,show (wsOf (links.take i)++[rowJ l j]).set i (rowJ l (j+1))=wsOf (links.take i)++[rowJ l (j+1)] by rw[List.set_append_right _ _ (by omega),bH,fc];rfl] at au;have O:own (ay.put g (some (.box (u8J (rowJ l (j+1)))))) tn D.length 1 S0:=E.mono λg' J _=>(qI bh J).trans J;generalize ay.put g (some (.box (u8J (rowJ l (j+1)))))=aB at au O ⊢;clear G E aE bh aF;refine (cH _).mono ?_;rintro _ aB ⟨⟨tp,rfl,htp⟩,rfl⟩;simp only[go_sem,sw];intro _;refine dt k.2.2.length (λq fr st' ds=>(∃us,PS gU gW gH rb lines.length [spI ca tw xw m,.sl tl xl,.raw (.map (some mN)),.sl tk xk] S0 (gs++[g]) st' hs (wsOf (links.take i)++[rowJ l (j+1)]) us/\UsOk us (evA (links.take i)++evL i (l.take j)++evK (i,j) (k.2.2.take q))/\own st' tn D.length 1 S0) /\
     fr 1=.iv (.cptr (ptr rb))/\fr 2=(slG gU lines.length)/\fr 3=.iv (.cptr (slG gW lines.length))/\fr 4=.iv (.sl tn (i32I D))/\fr 5=(i:Int)/\fr 45=.iv (.sl tk xk)/\fr 46=xk.length/\fr 47=(i:Int) /\
     fr 86=.iv (.sl tL yL)/\fr 87=yL.length/\fr 88=(j:Int)/\fr 10=(j:Int)/\fr 102=.iv (.sl tp (i32I k.2.2))/\fr 103=.iv (.raw (.int .i64 k.2.2.length))/\fr 104=(q:Int)/\ds=[]) ?_ ?_ ?_
    ·simp only[go_sem,zE];exact⟨⟨us,au,by simpa[evK] using hU,O⟩,f1,f2,f3,f4,f5,f45,f46,f47,f86,f87,f88,rfl⟩
    ·rintro q fr bx _ hq ⟨⟨us,G,hU,E⟩,f1,f2,f3,f4,f5,f45,f46,f47,f86,f87,f88,f10,f102,f103,f104,rfl⟩;obtain⟨p,hp⟩:=dD hq;have bP:=cM p (lMg hp);obtain⟨cells,c1,c2,c3,c4⟩:=G.usr.ex;obtain⟨lu,ag⟩:=dD (l:=us) (k:=p) (by rw[G.ul,<- hll];exact bP);obtain⟨tu,yu,d1,d2,d3⟩:=c3 p lu ag;have bo:=λn:Int=>me prog 3 21 mh vt .i64 n;have cC:IntKind.i32.wrap (i:Int)=(i:Int):=IntWalk.i32_in _ (by omega);have cB:IntKind.i32.wrap (j:Int)=(j:Int):=IntWalk.i32_in _ (by omega);have hpL:p<lines.length:=by rw[<- hll];exact bP
     simp only[go_sem,zE,zA,zM,zL,f2,f5,f10,f102,f103,f104,lt_i hq,dB htp,iNn,Gp hp,nt,c1,d1,hpL,bo,cC,cB,eh,fits,IV.one,ew,dY];have cE:=hU.len ag;have dq:(evA (links.take i)).length<=32000000*20000:=by
      have h1:=Gw (links:=links.take i) λl' aJ=>⟨av l' (kC aJ),λk' aK=>(hA.lk hS (kC aJ) aK).2.1⟩
      have h2:(links.take i).length<=20000:=by rw[dU];omega
      exact dN h1 (Nat.mul_le_mul_left _ h2)
     have dp:(evL i (l.take j)).length<=2*16000000:=by
      have h1:=Gv (i:=i) (l:=l.take j) λk' aK=>(hA.lk hS (lMg hl) (kC aK)).2.1;have h2:(l.take j).length<=16000000:=by rw[dU];omega
      exact dN h1 (Nat.mul_le_mul_left _ h2)
     have dn:(evK (i,j) (k.2.2.take q)).length<=2:=by unfold evK;rw[dP,dU];omega
     rw[lLa,lLa] at cE;refine zW d3 d2.1 G.base rfl (by simp[fits,IV.one]) (by simp only;omega) (by omega) λco bc w1 w2 w3 w4=>?_;have b6:=G.addU (u:=(i,j)) rfl ag c1 d1 w1 w2 w3 w4;have cR:bc gU=some (.box cells):=w3 _ _ c1 λe=>by rw[qH d3 e] at c1;cases c1
     have aH:own (bc.put gU (some (.box (cells.set p (.sl co (yu++[.agg [.raw (.int .i32 (i:Int)),.raw (.int .i32 (j:Int))]])))))) tn D.length 1 S0:=E.mono λg' J _=>by
      rw[dz λe=>by rw[e,c1] at J;cases J];exact w3 _ _ J λe=>by rw[qH d3 e] at J;simp at J
     simp only[go_sem,zE,f1,f2,f3,f4,f5,f10,f45,f46,f47,f86,f87,f88,f102,f103,f104,cR,hpL,dL hq (by omega),IV.one,ew];have aM:p<cells.length:=(lGs d1).1;rw[cX (iNn _),cX (show p+1<=cells.length from aM)];have b4:=hU.add (p:=p) (u:=(i,j)) (lGs ag).1;rw[show usAt us p=lu by unfold usAt;rw[ag];rfl,et,<- OT hp] at b4;exact⟨_,by rw[<- oT aM] at b6;exact b6,b4,by rw[<- oT aM] at aH;exact aH⟩
    ·rintro fr bx _ ⟨⟨us,G,hU,E⟩,f1,f2,f3,f4,f5,f45,f46,f47,f86,f87,f88,f10,f102,f103,f104,rfl⟩;simp only[go_sem,zE,f1,f2,f3,f4,f5,f45,f46,f47,f86,f87,f88,f103,f104,dS (nLi _)];rw[lTl,et,<- OS hk] at hU;exact⟨⟨us,G,hU,E⟩,by rw[dL bk (by omega)]⟩
   ·rintro fr ay _ ⟨⟨us,G,hU,E⟩,f1,f2,f3,f4,f5,f45,f46,f47,f86,f87,f88,rfl⟩;rw[aD,lTl,<- OR hl] at hU;rw[aD,show wsOf (links.take i)++[rowJ l l.length]=wsOf (links.take (i+1)) by rw[dM hl,O2];unfold wsOf;rw[eQ];rfl] at G;simp only[go_sem,zE,f1,f2,f3,f4,f45,f46,f47,f87,f88,dS (nLi _),dL bR (by omega)];exact⟨_,hs,us,tn,D,G,hU,E,rfl,hH,hN⟩
  ·have aL:=G.mem.hts;have bl:=G.mem.hl;have ab:i<lines.length:=by omega
   have bo:=λn:Int=>me prog 3 21 mh vt .i64 n;have hw:IntKind.i32.wrap (i:Int)=(i:Int):=IntWalk.i32_in _ (by omega);simp only[go_sem,zE,zA,zL,f1,f4,aG,aL,fits,IV.one,ew,dY,iNn,ab,eh,bo,hw];have ak:List.take i (dO hs)++[.raw (.int .i64 1)]++List.drop (i+1) (dO hs)=dO (hs.set i 1):=by
    rw[<- Gr,<- oT (by rw[fM,bl];exact ab)];rfl
   rw[cX (by rw[fM,bl];omega),ak];have au:=G.setH i 1;have O:own (aS.put gH (some (.box (dO (hs.set i 1))))) tn D.length 1 S0:=E.mono λg hg _=>(qI aL hg).trans hg;have cz:hs[i]?=some 0:=by
    obtain⟨x,hx⟩:=dD (l:=hs) (k:=i) (by rw[bl];exact ab);rw[hx,(hH i x hx).2 (dG _)]
   have de:=hN.len;generalize aS.put gH (some (.box (dO (hs.set i 1))))=bd at au O ⊢;refine zW O (sw D) au.base rfl (by simp[fits,IV.one]) (by simp only;omega) (by omega) λcn st4 w1 w2 w3 w4=>?_;simp only[go_sem,zE,f1,f2,f3,f45,f46,f47];exact⟨_,us,cn,D++[i],au.far O w2 w3,hU,by rw[lLa];exact w1,by simp[i32I],hH.one (a7.2 aT),hN.add cz⟩
  ·simp only[go_sem,zE,f1,f2,f3,f4,f45,f46,f47];exact⟨hs,us,tn,D,G,hU,E,rfl,hH.zero (λh=>(by rw[a7.1 h] at aT;cases aT)),hN⟩
 ·rintro fr aS _ ⟨⟨gs,hs,us,tn,D,G,hU,E,f4,hH,hN⟩,f1,f2,f3,f45,f46,f47,rfl⟩;rw[aW,lTl] at G hU;rw[aW] at hH;have bg:∀p u,(usAt us p).count u=(lkAt links u).count p:=λp u=>(hU p u).trans (OU links p u);have cV:Rnd (clL W lines) links 2 hs (wsOf links) D:=Rnd.start (λl hl k hk=>(hA.lk hS hl hk).1) (by rw[G.mem.hl,hll]) (λi x hx=>(hH i x hx).1 (by rw[hll,<- G.mem.hl];exact (lGs hx).1)) hN.1 hN.2;have bW:gs.length=lines.length:=by rw[G.mem.gll];unfold wsOf;rw[dP,hll]
  have h2:∀u,(lkAt links u).length<=2:=λu=>by
   unfold lkAt;cases hk:((links[u.1]?).getD [])[u.2]? with
   | none=>simp
   | some k =>
    cases hl:links[u.1]? with
    | none=>rw[hl] at hk;simp at hk
    | some l =>
     rw[hl] at hk;exact (hA.lk hS (lMg hl) (lMg hk)).2.1
  have bU:∀u,∀p∈lkAt links u,p<links.length:=λu p hp=>by
   unfold lkAt at hp;cases hk:((links[u.1]?).getD [])[u.2]? with
   | none=>rw[hk] at hp;cases hp
   | some k =>
    rw[hk] at hp;cases hl:links[u.1]? with
    | none=>rw[hl] at hk;simp at hk
    | some l =>
     rw[hl] at hk;exact (hA.lk hS (lMg hl) (lMg hk)).2.2.2.2 p hp
  have dk:hs.count 0<=20000:=by
   have:=List.count_le_length (a:=0) (l:=hs);have:=G.mem.hl;omega
  simp only[go_sem,zE,f1,f3,f46,f47,dS (nLi _)];refine LoopC.dec (2*hs.count 0+if D=[] then 0 else 1) (λq fr st' ds=>(∃H hs ws tn D,q=2*hs.count 0+(if D=[] then 0 else 1)/\2<=H/\H+hs.count 0<=20002+(if D=[] then 1 else 0)/\PS gU gW gH rb lines.length [spI ca tw xw m,.sl tl xl,.raw (.map (some mN)),.sl tk xk] S0 gs st' hs ws us /\
   Rnd (clL W lines) links H hs ws D/\okEs tn 1/\fr 4=.iv (.sl tn (i32I D))/\fr 15=(H:Int)) /\
   fr 1=.iv (.cptr (ptr rb))/\fr 2=(slG gU lines.length)/\fr 3=.iv (.cptr (slG gW lines.length))/\fr 14=.iv (.fn (.func 95) [] [.cptr (slG gW lines.length),.cptr (ptr rb)])/\ds=[]) ?_ ?_
  ·simp only[go_sem,zE,f1,f2,f3,f4];exact⟨2,hs,_,tn,D,rfl,dG _,by omega,G,cV,E.es,rfl,rfl⟩
  ·rintro q fr bd _ ⟨⟨H,hs,ws,tn,D,hq,b7,cW,G,hR,cI,f4,f15⟩,f1,f2,f3,f14,rfl⟩;by_cases bi:D=[]
   ·subst bi;simp only[go_sem,zL,f4,sw,ee,show decide (((0:Nat):Int) > 0)=false from rfl];have aZ:=G.mem.rbx;simp only[eu,fa] at aZ;exact c_ ⟨rfl,gH,hs,aZ,G.mem.hts,G.mem.hl,(Sett.right (us:=us) (.done H hs ws) hR b7 bg h2 bU).2,G.base⟩
   ·have c0:0<D.length:=jJ.2 bi;rw[a_ bi] at hq cW;simp only[go_sem,zE,f4,sw,show decide (((D.length:Nat):Int) > 0)=true from dEt (by omega)];intro _ _;refine dt D.length (λa fr st' ds=>(∃tq S,S=((D.take a).flatMap (usAt us)).foldl (gv H) (hs,ws,[])/\PS gU gW gH rb lines.length [spI ca tw xw m,.sl tl xl,.raw (.map (some mN)),.sl tk xk] S0 gs st' S.1 S.2.1 us/\RdS links hs S/\own st' tq S.2.2.length 1 S0/\fr 16=.iv (.sl tq (i32I S.2.2))) /\
     fr 1=.iv (.cptr (ptr rb))/\fr 2=(slG gU lines.length)/\fr 3=.iv (.cptr (slG gW lines.length))/\fr 14=.iv (.fn (.func 95) [] [.cptr (slG gW lines.length),.cptr (ptr rb)])/\fr 15=(H:Int) /\
     fr 131=.iv (.sl tn (i32I D))/\fr 132=.iv (.raw (.int .i64 D.length))/\fr 133=(a:Int)/\ds=[]) ?_ ?_ ?_
    ·simp only[go_sem,zE];exact⟨⟨⟨true,.nil,0⟩,_,rfl,G,⟨iO _,hR.wd⟩,own.nil ..,rfl⟩,f1,f2,f3,f14,f15,rfl⟩
    ·rintro a fr st4 _ ha ⟨⟨tq,S,ae,G,aj,E,f16⟩,f1,f2,f3,f14,f15,f131,f132,f133,rfl⟩;obtain⟨i,hi⟩:=dD ha;have ab:i<lines.length:=by
      have:=(lGs ((hR.nw i).1 (lMg hi))).1;rw[hR.len,hll] at this;exact this
     obtain⟨cells,c1,c2,c3,c4⟩:=G.usr.ex;obtain⟨lu,ag⟩:=dD (l:=us) (k:=i) (by rw[G.ul];exact ab);obtain⟨tu,yu,d1,d2,d3⟩:=c3 i lu ag;have bJ:usAt us i=lu:=by unfold usAt;rw[ag];rfl
     have aC:=d2.1;have da:yu.length<=32000000*20000:=by
      have h1:=hU.len ag;have h2:=Gw (links:=links) λl' aJ=>⟨av l' aJ,λk' aK=>(hA.lk hS aJ aK).2.1⟩
      have h3:links.length<=20000:=by omega
      rw[aC];exact dN h1 (dN h2 (Nat.mul_le_mul_left _ h3))
     simp only[go_sem,zE,f2,f131,f132,f133,lt_i ha,dB cI,iNn,Gp hi,nt,c1,d1,ab,fits,IV.one,ew,dY];intro _;refine dt yu.length (λb fr st' ds=>(∃tq S,S=((D.take a).flatMap (usAt us)++lu.take b).foldl (gv H) (hs,ws,[])/\PS gU gW gH rb lines.length [spI ca tw xw m,.sl tl xl,.raw (.map (some mN)),.sl tk xk] S0 gs st' S.1 S.2.1 us/\RdS links hs S/\own st' tq S.2.2.length 1 S0/\fr 16=.iv (.sl tq (i32I S.2.2))) /\
      fr 1=.iv (.cptr (ptr rb))/\fr 2=(slG gU lines.length)/\fr 3=.iv (.cptr (slG gW lines.length))/\fr 14=.iv (.fn (.func 95) [] [.cptr (slG gW lines.length),.cptr (ptr rb)])/\fr 15=(H:Int) /\
      fr 131=.iv (.sl tn (i32I D))/\fr 132=.iv (.raw (.int .i64 D.length))/\fr 133=(a:Int)/\fr 140=.iv (.sl tu yu)/\fr 141=yu.length/\fr 142=(b:Int)/\ds=[]) ?_ ?_ ?_
     ·simp only[go_sem,zE];exact⟨⟨tq,S,ae,G,aj,E,f16⟩,f1,f2,f3,f14,f15,f131,f132,f133,rfl⟩
     ·rintro b fr ay _ hb ⟨⟨tq,S,ae,G,aj,E,f16⟩,f1,f2,f3,f14,f15,f131,f132,f133,f140,f141,f142,rfl⟩;obtain⟨u,hu⟩:=dD (l:=lu) (k:=b) (by rw[<- aC];exact hb);obtain⟨yy,bA,cv⟩:=d2.2 b u hu;have bj:lkAt links u≠[]:=λe=>by
       have h1:=bg i u;rw[bJ,e] at h1;have h3:0<lu.count u:=lz.2 (lMg hu);rw[h1] at h3;simp at h3
      obtain⟨x,hx⟩:=aj.2 u bj;obtain⟨w,hw,cA⟩:∃w,S.2.1[u.1]?=some w/\w[u.2]?=some x:=by
       unfold atW at hx;cases hw:S.2.1[u.1]? with
       | none=>rw[hw] at hx;simp at hx
       | some w=>rw[hw] at hx;exact⟨w,rfl,hx⟩
      have dj:S.2.1.length=lines.length:=by rw[<- G.mem.gll,bW]
      obtain⟨h,hh⟩:=dD (l:=S.1) (k:=u.1) (by rw[G.mem.hl];have:=(lGs hw).1;omega);have cP:=OY gl gU gW gH rb lines.length _ _ _ _ S0 gs S.1 S.2.1 us u ay G w hw x cA h hh;rw[cv] at bA;have af:gv H S u=((D.take a).flatMap (usAt us)++lu.take (b+1)).foldl (gv H) (hs,ws,[]):=by
       rw[dM hu,<- et,List.foldl_append,<- ae];rfl
      have ax:=aj.step (H:=H) (by omega) u;have b1:atW (decW S.2.1 u) u=some ((x+255)%256):=by rw[qD,cX rfl,hx];rfl
      have bK:u.1<lines.length:=by rw[<- G.mem.hl];exact (lGs hh).1
      simp only[go_sem,zE,zB,zA,zL,f14,f140,f141,f142,lt_i hb,dB d3.es,iNn,bA,fits,IV.one];refine cP.mono ?_;rintro _ aB ⟨rfl,aA,b0⟩;have aI:own aB tq S.2.2.length 1 S0:=E.mono λg' J _=>b0 _ _ _ J;have dc:S.2.2.length<=20000:=by
       have h4:=aj.1;have h5:=List.count_le_length (a:=0) (l:=hs);have h6:=hR.len;omega
      by_cases aN:(x+255)%256=0/\h=0
      ·have hT:gv H S u=(S.1.set u.1 H,decW S.2.1 u,S.2.2++[u.1]):=by
        unfold gv;rw[cX ⟨by rw[b1,aN.1],by rw[hh,aN.2]⟩]
       rw[hT] at af ax;have aL:=aA.mem.hts;have aY:=aA.mem.rbx;simp only[eu,fa] at aY;simp only[go_sem,zE,zA,zL,dEt aN,f1,f15,f16,aY,aL,nt,fits,IV.one,ew,dY,iNn,bK,eh];have ak:List.take u.1 (dO S.1)++[.raw (.int .i64 (H:Int))]++List.drop (u.1+1) (dO S.1)=dO (S.1.set u.1 H):=by
        rw[<- Gr,<- oT (by rw[fM,aA.mem.hl];exact bK)];rfl
       rw[cX (by rw[fM,aA.mem.hl];omega),ak];have bp:=aA.setH u.1 H;have an:own (aB.put gH (some (.box (dO (S.1.set u.1 H))))) tq S.2.2.length 1 S0:=aI.mono λg' J _=>(qI aL J).trans J;generalize aB.put gH (some (.box (dO (S.1.set u.1 H))))=bx at bp an ⊢;refine zW an (sw _) bp.base rfl (by simp[fits,IV.one]) (by simp only;omega) (by omega) λcm bc w1 w2 w3 w4=>?_;simp only[go_sem,zE,f1,f2,f3,f14,f15,f131,f132,f133,f140,f141,f142,dL hb (by omega)];exact⟨cm,_,af,bp.far an w2 w3,ax,by rw[lLa];exact w1,by simp[i32I]⟩
      ·have hF:gv H S u=(S.1,decW S.2.1 u,S.2.2):=by
        unfold gv;rw[a_ λe=>aN ⟨by have:=e.1;rw[b1] at this;exact eC this,by have:=e.2;rw[hh] at this;exact eC this⟩]
       rw[hF] at af ax;simp only[go_sem,zE,dEf aN,f1,f2,f3,f14,f15,f16,f131,f132,f133,f140,f141,f142,dL hb (by omega)];exact⟨tq,_,af,aA,ax,aI,rfl⟩
     ·rintro fr ay _ ⟨⟨tq,S,ae,G,aj,E,f16⟩,f1,f2,f3,f14,f15,f131,f132,f133,f140,f141,f142,rfl⟩;rw[aC,lTl] at ae;have b2:(D.take a).flatMap (usAt us)++lu=(D.take (a+1)).flatMap (usAt us):=by rw[dM hi,ix,List.flatMap_singleton,bJ]
      rw[b2] at ae;simp only[go_sem,zE,f1,f2,f3,f14,f15,f131,f132,f133,f141,f142,dS (nLi _),dL ha (by omega)];exact⟨tq,S,ae,G,aj,E,f16⟩
    ·rintro fr st4 _ ⟨⟨tq,S,ae,G,aj,E,f16⟩,f1,f2,f3,f14,f15,f131,f132,f133,rfl⟩;rw[lTl] at ae;have bQ:=hR.next b7 bg h2 bU;rw[<- ae] at bQ;have hc:=aj.1;have c8:H<=20002:=by omega
     simp only[go_sem,zE,f1,f2,f3,f14,f15,f16,f132,f133,dS (nLi _)];refine⟨2*S.1.count 0+(if S.2.2=[] then 0 else 1),?_,H+1,S.1,S.2.1,tq,S.2.2,rfl,by omega,?_,G,bQ,E.es,rfl,by rw[dL (eS H) (by omega)]⟩
     ·by_cases h0:S.2.2=[]
      ·rw[h0,ee] at hc;rw[cX h0];omega
      ·have:=jJ.2 h0;rw[a_ h0];omega
     ·by_cases h0:S.2.2=[]
      ·rw[h0,ee] at hc;rw[cX h0];omega
      ·have:=jJ.2 h0;rw[a_ h0];omega
def BadR (ca:Nat)(s:Sq)(e:Nat):Prop:=((¬ (ca=1\/ca=2)/\e=2)\/((ca=1\/ca=2)/\en ca s=false/\e=190)\/((ca=1\/ca=2)/\en ca s=true/\qv (calJ ca) (nf (s.l,s.r)) e))/\e=errN ca s
def BadR.ne {ca:Nat}{s:Sq}{e:Nat}(h:BadR ca s e):e≠0:=by
 rcases h.1 with⟨_,rfl⟩|⟨_,_,rfl⟩|⟨_,_,h|h⟩
 ·decide
 ·decide
 ·rw[h.1];decide
 ·rw[h.1];decide
def ExplR.split {ca:Nat}{s:Sq}{st st':ISt}{r:IV}(h:ExplR ca s st r st'):(∃e,BadR ca s e/\r=.tup [.raw (.pointer none),(e:Int)]/\st'=st) \/
  (errN ca s=0/\(ca=1\/ca=2)/\en ca s=true/\∃m tw xw rb mN lines links,okEs tw 4/\IsFms (spW s) xw/\r=.tup [ptr rb,(0:Int)]/\RS ca m (spW s) tw xw rb mN st st' lines links/\ExS ca (spW s) (nf (s.l,s.r)) lines links/\links.length=lines.length):=by
 rcases h with⟨hc,h1,h2⟩|⟨hc,hv,h1,h2⟩|⟨hc,hv,⟨e,h1,h2,D⟩|h⟩
 ·exact .inl ⟨2,⟨.inl ⟨hc,rfl⟩,by unfold errN;rw[a_ hc]⟩,h1,h2⟩
 ·exact .inl ⟨190,⟨.inr (.inl ⟨hc,hv,rfl⟩),by unfold errN;rw[cX hc,a_ (by rw[hv];simp)]⟩,h1,h2⟩
 ·exact .inl ⟨e,⟨.inr (.inr ⟨hc,hv,h1.1⟩),h1.2⟩,h2,D⟩
 ·obtain⟨m,tw,xw,rb,mN,lines,links,J,a2,a3,a4,a5,G,E⟩:=h;exact .inr ⟨E,hc,hv,m,tw,xw,rb,mN,lines,links,J,a2,a3,a4,a5,G⟩
def Gy (G:Gl gl)(T:Gt gl)(ca:Nat)(s:Sq)(x:IV)(hx:IsSq s x)(hs:fY s)(st:ISt):ICall prog gl 38 [.raw (.int .u8 (ca:Int)),x] st (λr st'=>st'=st /\
  ((∃e,BadR ca s e/\r=.tup [(0:Int),(e:Int)])\/(errN ca s=0/\(ca=1\/ca=2)/\en ca s=true/\(∃K:List Sn,ReachOk (calJ ca) (nf (s.l,s.r)) K)/\r=.tup [(hF (calJ ca) (s.l,s.r):Int),(0:Int)]))):=by
 have he:=OQ gl G T ca s x hx hs;obtain⟨t1,x1,t2,x2,rfl,e1,i1,e2,i2⟩:=hx;refine iI func38 ?_;simp only[go_sem,zE,zA,zL,reduceCtorEq];refine (he _).mono ?_;rintro r ae hr;rcases hr.split with⟨e,hb,rfl,rfl⟩|⟨au,hc,hv,m,tw,xw,rb,mN,lines,links,ai,af,rfl,hR,hE,hl⟩
 ·have h0:decide ((e:Int)=0)=false:=dEf (by have:=hb.ne;omega);simp only[go_sem,zE,h0];exact c_ ⟨rfl,.inl ⟨e,hb,rfl⟩⟩
 ·obtain⟨hS,_,av,aC⟩:=qG hc hv;obtain⟨tl,xl,tk,xk,al,ag,am,ah,an⟩:=hR.ex;have hA:=hE.all hl;have aj:=O3 gl ca m (spW s) hS tw xw ai af av lines links hA hE.len tl tk xl xk mN rb ag ah am.es an.es st ae al hR.off.1 hR.base;simp only[go_sem,zE,zA,dC];refine aj.mono ?_;rintro _ aA ⟨rfl,gH,ak,E,aq,aD,J,D⟩;obtain⟨ln,O,ao⟩:=hE.start;have aw:=(lGs O).1;obtain⟨h,hh⟩:=dD (l:=ak) (k:=0) (by omega);have aa:=hA.hF hS O (J 0 h hh);rw[ao,zo] at aa;simp only[go_sem,zE,E,aq,fits,aw,kW hh,Nat.zero_mul,iO,show ((0:Int)<=0)=True from eT (by decide),show Int.toNat 0=0 from rfl,IV.one];rw[<- aa];exact⟨st,D,rfl,.inr ⟨au,hc,hv,⟨_,hE.reach hS hR.nd (Nat.le_of_eq hl.symm)⟩,rfl⟩⟩
def Gz (G:Gl gl)(T:Gt gl)(ca:Nat)(s:Sq)(x:IV)(D:IsSq s x)(hs:fY s)(st:ISt):ICall prog gl 38 [.raw (.int .u8 (ca:Int)),x] st (λr st'=>st'=st /\
  ((∃e,BadR ca s e/\r=.tup [(0:Int),(e:Int)])\/((ca=1\/ca=2)/\en ca s=true/\(∃K:List Sn,ReachOk (calJ ca) (nf (s.l,s.r)) K)/\r=.tup [(hF (calJ ca) (s.l,s.r):Int),(0:Int)]))) :=
 (Gy gl G T ca s x D hs st).mono λ_ _ ⟨h1,h2⟩=>⟨h1,h2.imp_right (·.2)⟩
noncomputable def leF (ca:Nat)(s:Sq):Nat×Nat:=(if errN ca s=0 then hF (calJ ca) (s.l,s.r) else 0,errN ca s)
def GA (G:Gl gl)(T:Gt gl)(ca:Nat)(s:Sq)(x:IV)(J:IsSq s x)(hs:fY s)(st:ISt):ICall prog gl 38 [.raw (.int .u8 (ca:Int)),x] st (λr st'=>(r=.tup [((leF ca s).1:Int),((leF ca s).2:Int)] /\
  ((leF ca s).2=0->(ca=1\/ca=2)/\en ca s=true/\∃K:List Sn,ReachOk (calJ ca) (nf (s.l,s.r)) K))/\st'=st) :=
 (Gy gl G T ca s x J hs st).mono λr st' ⟨h1,h2⟩=>by
  rcases h2 with⟨e,E,rfl⟩|⟨h0,hc,hv,hK,rfl⟩
  ·obtain rfl:e=errN ca s:=E.2;have D:=E.ne;exact⟨⟨by simp only[leF,a_ D];rfl,λh=>(D h).elim⟩,h1⟩
  ·exact⟨⟨by simp only[leF,h0];rfl,λ_=>⟨hc,hv,hK⟩⟩,h1⟩
def vB (s:Sn):ClF (nf s).1 (nf s).2↔ClF s.1 s.2:=by
 unfold ClF nf;simp only[yXq]
def O4 (G:Gl gl)(T:Gt gl)(ca:Nat)(s:Sq)(x:IV)(hx:IsSq s x)(hs:fY s)(st:ISt):ICall prog gl 96 [.raw (.int .u8 (ca:Int)),x] st (λr st'=>st'=st /\
  ((¬ (ca=1\/ca=2)/\r=.tup [false,(2:Int)])\/((ca=1\/ca=2)/\en ca s=false/\r=.tup [false,(190:Int)]) \/
   ((ca=1\/ca=2)/\en ca s=true/\∃b:Bool,(b=true↔ClF s.l s.r)/\r=.tup [b,(0:Int)]))):=by
 have hb:=zU gl G ca s x hx hs;have ac:=hx;obtain⟨t1,x1,t2,x2,rfl,e1,i1,e2,i2⟩:=hx;refine iI func96 ?_;simp only[go_sem,zE,zA,zL,reduceCtorEq];refine (hb _).mono ?_;rintro _ J (⟨hc,rfl,rfl⟩|⟨hc,hv,rfl,rfl⟩|⟨hc,hv,m,tw,xw,hm,aa,O,rfl,rfl⟩)
 ·simp only[go_sem,zE,show decide ((2:Int)=0)=false from rfl];exact c_ ⟨rfl,.inl ⟨hc,rfl⟩⟩
 ·simp only[go_sem,zE,show decide ((190:Int)=0)=false from rfl];exact c_ ⟨rfl,.inr (.inl ⟨hc,hv,rfl⟩)⟩
 ·obtain⟨hS,_,ag,E⟩:=qG hc hv;have ai:=zT hv;have D:=zw E;simp only[go_sem,zE,zA,zL,dC];refine (vh gl T ca m (spW s) tw xw aa O hS.srt (dN ag (by omega)) s _ ac ⟨by omega,by omega⟩ E _).mono ?_;rintro z J ⟨hz,rfl⟩;have af:=λst=>zJ gl ca m (spW s) hS tw xw aa O _ D z hz st;obtain⟨ta,tb,rfl,ea,eb⟩:=hz;simp only[go_sem,zE,zA];refine (af _).mono ?_;rintro _ J ⟨⟨zf,rfl,ab⟩,rfl⟩;obtain⟨y1,y2,y3,y4,y5,y6,rfl⟩:=ab.agg;simp only[go_sem,zE,zA,zL];refine⟨st,fb hm,rfl,.inr (.inr ⟨hc,hv,_,?_,rfl⟩)⟩;rw[zI D.1,n_ hS.srt D,vf hS.srt E];exact vB (s.l,s.r)
def GB {W:List Fm}{l:List Nat}{k i:Nat}{f:Fm}(h:l[k]?=some i)(D:W[i]?=some f):fmW W (l.take (k+1))=fmW W (l.take k)++[f]:=by
 rw[dM h];unfold fmW;rw[List.filterMap_append];simp[D]
def O5 (ca m:Nat)(W:List Fm)(hS:SpOk ca W)(tw:Tag)(xw:List IV)(av:okEs tw 4)(af:IsFms W xw)(ln:Ln)(O:LnOk W ln)(x:IV)(hx:IsLn ln x)(st:ISt) :
  ICall prog gl 131 [spI ca tw xw m,x] st (λr st'=>IsSq ⟨fmW W ln.1,fmW W ln.2⟩ r/\st'=st):=by
 obtain⟨ta,tb,rfl,ea,eb⟩:=hx;have aZ:=nZ O.1.1 O.1.2;have aY:=nZ O.2.1 O.2.2;have a1:=hS.len;refine iI func131 ?_;simp only[go_sem,zE];intro _;refine dt (dO ln.1).length (λk fr st' ds=>(∃t y,fr 5=.box [.sl t y,()]/\own st' t k 4 st/\subSt st st'/\IsFms (fmW W (ln.1.take k)) y/\y.length=k)/\fr 0=(spI ca tw xw m)/\fr 3=.box [.sl ta (dO ln.1),.sl tb (dO ln.2)]/\fr 4=.box [(),()] /\
  fr 11=.iv (.sl ta (dO ln.1))/\fr 12=.iv (.raw (.int .i64 (dO ln.1).length))/\fr 13=(k:Int)/\ds=[]) ?_ ?_ ?_
 ·simp only[go_sem,zE,reduceCtorEq];exact⟨⟨_,_,rfl,own.nil ..,subSt.refl _,rfl,rfl⟩,rfl⟩
 ·rintro k fr ae _ D ⟨⟨t1,y1,ac,G,E,hy,J⟩,f0,f3,f4,fl,fn,fk,rfl⟩;rw[fM] at D;obtain⟨i,hi⟩:=dD D;have aa:=O.1.2 i (lMg hi);obtain⟨f,hf⟩:=dD aa;obtain⟨z,hz,ab⟩:=af.get hf;have am:=λst=>mZ gl f z ab (dN (hS.size (lMg hf)) (by omega)) st;have au:i<xw.length:=by rw[af.len];exact aa
  cases f with
  | mk og ng ug sg =>
  obtain⟨aD,az,aC,ay,rfl,aH⟩:=ab.mk;simp only[go_sem,zE,zB,zA,reduceCtorEq,ac,f0,fl,fn,fk,lt_i (show k<(dO ln.1).length by rw[fM];exact D),dB ea,dB av,iNn,kW hi,hz,fits,IV.one];refine (am _).mono ?_;rintro r ae ⟨hr,rfl⟩;obtain⟨o1,n1,t2,x2,t3,x3,rfl⟩:=iK hr;simp only[go_sem,zE,zA,zM,zL,fits,eh];refine ij G J E rfl (by simp[fits,IV.one]) (by simp only;omega) (by omega) λah aF w1 w2 w3=>?_;simp only[go_sem,zE,zA,zL,reduceCtorEq,f0,f3,f4,fl,fn,fk,ac,dL (show k<(dO ln.1).length by rw[fM];exact D) (by rw[fM];omega)];exact⟨ah,_,rfl,w1,w2,by rw[GB hi hf];exact hy.append (.one hr.1),by rw[lLa,J];rfl⟩
 ·rintro fr aS _ ⟨⟨t0,y0,f5,aj,ai,aq,aL⟩,f0,f3,f4,fl,fn,fk,rfl⟩;rw[fM,lTl] at aq;have aJ:=aj.es;simp only[go_sem,zE,f3,fn,fk,dS (nLi _)];intro _;refine dt (dO ln.2).length (λk fr st' ds=>(∃t y,fr 5=.box [.sl t0 y0,.sl t y]/\own st' t k 4 st/\subSt st st'/\IsFms (fmW W (ln.2.take k)) y/\y.length=k)/\fr 0=(spI ca tw xw m)/\fr 3=.box [.sl ta (dO ln.1),.sl tb (dO ln.2)]/\fr 4=.box [(),()] /\
   fr 32=.iv (.sl tb (dO ln.2))/\fr 33=.iv (.raw (.int .i64 (dO ln.2).length))/\fr 34=(k:Int)/\ds=[]) ?_ ?_ ?_
  ·simp only[go_sem,zE,reduceCtorEq,f0,f3,f4,f5];exact⟨⟨_,_,rfl,own.nil ..,ai,rfl,rfl⟩,rfl⟩
  ·rintro k fr ae _ D ⟨⟨t1,y1,ac,G,E,hy,J⟩,f0,f3,f4,fl,fn,fk,rfl⟩;rw[fM] at D;obtain⟨i,hi⟩:=dD D;have aa:=O.2.2 i (lMg hi);obtain⟨f,hf⟩:=dD aa;obtain⟨z,hz,ab⟩:=af.get hf;have am:=λst=>mZ gl f z ab (dN (hS.size (lMg hf)) (by omega)) st;have au:i<xw.length:=by rw[af.len];exact aa
   cases f with
   | mk og ng ug sg =>
   obtain⟨aD,az,aC,ay,rfl,aH⟩:=ab.mk;simp only[go_sem,zE,zB,zA,reduceCtorEq,ac,f0,fl,fn,fk,lt_i (show k<(dO ln.2).length by rw[fM];exact D),dB eb,dB av,iNn,kW hi,hz,fits,IV.one];refine (am _).mono ?_;rintro r ae ⟨hr,rfl⟩;obtain⟨o1,n1,t2,x2,t3,x3,rfl⟩:=iK hr;simp only[go_sem,zE,zA,zM,zL,fits,eh];refine ij G J E rfl (by simp[fits,IV.one]) (by simp only;omega) (by omega) λah aF w1 w2 w3=>?_;simp only[go_sem,zE,zA,zL,reduceCtorEq,f0,f3,f4,fl,fn,fk,ac,dL (show k<(dO ln.2).length by rw[fM];exact D) (by rw[fM];omega)];exact⟨ah,_,rfl,w1,w2,by rw[GB hi hf];exact hy.append (.one hr.1),by rw[lLa,J];rfl⟩
  ·rintro fr ae _ ⟨⟨t1,y1,f5,G,E,hy,J⟩,f0,f3,f4,fl,fn,fk,rfl⟩;rw[fM,lTl] at hy;have aI:=G.es;simp only[go_sem,zE,zA,zL,f4,f5,fn,fk,dS (nLi _)];exact⟨st,E,⟨t0,y0,t1,y1,rfl,aJ,aq,aI,hy⟩,rfl⟩
def gV (v:Nat×Fm×List Sn)(x:IV):Prop:=∃o n t1 G t2 E t3 D,x=.agg [.raw (.int .u8 (v.1:Int)),.raw (.int .u8 o),.raw (.string n),.sl t1 G,.sl t2 E,.sl t3 D]/\IsFm v.2.1 (.agg [.raw (.int .u8 o),.raw (.string n),.sl t1 G,.sl t2 E])/\okEs t3 2/\AllR (λp y=>IsSq ⟨p.1,p.2⟩ y) v.2.2 D
def O6 (G:Gl gl)(T:Gt gl)(ca:Nat)(s:Sq)(x:IV)(hx:IsSq s x)(hs:fY s)(st:ISt):ICall prog gl 98 [.raw (.int .u8 (ca:Int)),x] st (λr st'=>st'=st /\
  ((¬ (ca=1\/ca=2)/\r=.tup [(),(2:Int)])\/((ca=1\/ca=2)/\en ca s=false/\r=.tup [(),(190:Int)]) \/
   ((ca=1\/ca=2)/\en ca s=true/\((nq (calJ ca) (nf (s.l,s.r))/\r=.tup [(),(5:Int)])\/(¬ nq (calJ ca) (nf (s.l,s.r))/\∃t ys,okEs t 6/\AllR gV (mvF (calJ ca) (nf (s.l,s.r))) ys/\r=.tup [.sl t ys,(0:Int)]))))):=by
 have hb:=zU gl G ca s x hx hs;have bm:=hx;obtain⟨t1,x1,t2,x2,rfl,e1,i1,e2,i2⟩:=hx;refine ke (t:=6) (n:=2) (c:=cf prog gl [4,5,6,8,38] [(10,[0,1,2,3,4,6,7,12,5,8,9,10,11,13])] [3]) func98 rfl (by show _<=66;simp) (by show _<66;simp) (by kernel_rfl) ?_;simp only[go_sem,zE,zA,reduceCtorEq,fits];refine λb4=>d_ λh4=>λb5=>d_ λh5=>?_;have D:b5≠b4:=λe=>by rw[e,b_] at h5;cases h5
 rw[dz D] at h5;have sub0:subSt st ((st.put b4 (some (.box [()]))).put b5 (some (.box [(0:Int)]))):=eG (fb h4) h5;refine (hb _).mono ?_;rintro _ aU (⟨hc,rfl,rfl⟩|⟨hc,hv,rfl,rfl⟩|⟨hc,hv,m,tw,xw,hm,J,aa,rfl,rfl⟩)
 ·simp only[go_sem,zE,zL];refine λb6=>d_ λE=>?_;have n6:b6≠b5:=λe=>by rw[e,b_] at E;cases E
  rw[dz n6] at E;have bi:b6≠b4:=λe=>by rw[e,b_] at E;cases E
  refine⟨b6,.raw (.pointer none),by simp only[go_sem,zE],b_ ..,?_⟩;rw[oh (by rw[dz n6];exact E)];simp only[go_sem,zE,zL,show decide ((2:Int)=0)=false from rfl,dz D.symm,dz D];exact⟨st,eG (eG sub0 h4) h5,rfl,.inl ⟨hc,rfl⟩⟩
 ·simp only[go_sem,zE,zL];refine λb6=>d_ λE=>?_;have n6:b6≠b5:=λe=>by rw[e,b_] at E;cases E
  rw[dz n6] at E;have bi:b6≠b4:=λe=>by rw[e,b_] at E;cases E
  refine⟨b6,.raw (.pointer none),by simp only[go_sem,zE],b_ ..,?_⟩;rw[oh (by rw[dz n6];exact E)];simp only[go_sem,zE,zL,show decide ((190:Int)=0)=false from rfl,dz D.symm,dz D];exact⟨st,eG (eG sub0 h4) h5,rfl,.inr (.inl ⟨hc,hv,rfl⟩)⟩
 ·obtain⟨hS,_,aI,aG⟩:=qG hc hv;have bI:=zT hv;have ab:=zw aG;have aZ:=vf hS.srt aG;simp only[go_sem,zE,zL];refine λb6=>d_ λE=>?_;have bW:b6≠m:=λe=>by rw[e,b_] at E;cases E
  refine⟨b6,spI ca tw xw m,by simp only[go_sem,zE],b_ ..,?_⟩;rw[oh E,show age (spI ca tw xw m)=spI ca ⟨false,tw.cap,tw.es⟩ (ages xw) m by simp only[age,ages]];replace J:okEs ⟨false,tw.cap,tw.es⟩ 4:=J;replace aa:=aa.aged;generalize (⟨false,tw.cap,tw.es⟩:Tag)=tw at J ⊢;generalize ages xw=xw at aa ⊢;simp only[go_sem,zE,zA,dC];refine λb8=>d_ λh8=>?_;refine (vh gl T ca m (spW s) tw xw J aa hS.srt (dN aI (by omega)) s _ bm ⟨by omega,by omega⟩ aG _).mono ?_;rintro z aU ⟨hz,rfl⟩;have bs:=λst=>FZ gl m (spI ca tw xw m) z _ rfl _ hz st;have bt:=F5 gl G T ca m _ hS aI tw xw J aa _ ab z hz;obtain⟨ta,tb,rfl,ea,eb⟩:=id hz;simp only[go_sem,zE,zA];refine (bs _).q ?_;simp only[go_sem,reduceCtorEq];have a6:m≠b5:=λe=>by rw[e,b_] at hm;cases hm
  rw[dz a6] at hm;have a7:m≠b4:=λe=>by rw[e,b_] at hm;cases hm
  rw[dz a7] at hm;have aJ:b8≠m:=λe=>by rw[e,b_] at h8;cases h8
  rw[dz aJ] at h8;have aK:b8≠b5:=λe=>by rw[e,b_] at h8;cases h8
  rw[dz aK] at h8;have aL:b8≠b4:=λe=>by rw[e,b_] at h8;cases h8
  rw[dz aL] at h8;generalize am:((((st.put b4 (some (.box [()]))).put b5 (some (.box [(0:Int)]))).put m (some (.map .pl []))).put b8 (some (.box [()])))=sA;have ay:IsFms (setF (eZ (s.l++s.r))) xw:=aa;generalize hW:setF (eZ (s.l++s.r))=W at *;generalize bH:lp W (s.l,s.r)=ln at *
  let EI:Nat->ISt->Prop:=λk s'=>∃(vs:List Mv) (t8:Tag) (ys:List IV),(cutO (mvsN W (calJ ca) ln)).take k=vs.map some/\AllR gV (vs.map (mvW W)) ys/\SpSt ca m W s'/\s' b4=some (.box [()])/\s' b5=some (.box [(0:Int)])/\s' b8=some (.box [.sl t8 ys])/\own s' t8 vs.length 6 st/\subSt st s'
  let ES:Exit->ISt->Prop:=λe s'=>e=.ret/\s' b4=some (.box [()])/\s' b5=some (.box [(5:Int)])/\none∈mvsN W (calJ ca) ln/\subSt st s'
  refine RangeU.intro (mvX W (calJ ca) ln) (cutO (mvsN W (calJ ca) ln)).length EI ES (SpUp ca m W) ?_ (by simp only[go_sem]) ?_ ?_ ?_ (bt.of λk s ⟨_,_,_,_,_,h,_⟩=>h) ?_ ?_
  ·rintro k s' m' kk es bx ⟨vs,t8,ys,q1,q2,⟨av,q3,bh⟩,q4,q5,q6,q7,q8⟩ a8 ⟨rfl,hu⟩;rw[q3] at a8;cases a8;have e4:b4≠m':=λe=>by rw[e,q3] at q4;cases q4
   have e5:b5≠m':=λe=>by rw[e,q3] at q5;cases q5
   have e8:b8≠m':=λe=>by rw[e,q3] at q6;cases q6
   exact⟨vs,t8,ys,q1,q2,⟨bx,b_ ..,hu bh⟩,by rw[dz e4];exact q4,by rw[dz e5];exact q5,by rw[dz e8];exact q6,q7.mono λg hg _=>(by rw[dz λe=>(by rw[e,q3] at hg;cases hg)];exact hg),eG q8 hm⟩
  ·rintro k a ⟨o,_,ho⟩;cases o with
   | none=>rw[show a=_ from ho];rfl
   | some v=>obtain⟨x,rfl,_⟩:=ho;rfl
  ·exact⟨[],⟨true,.nil,0⟩,[],rfl,AllR.nil,⟨[],by rw[<- am,dz aJ.symm,b_],λp hp=>by cases hp⟩,by rw[<- am,dz aL.symm,dz a7.symm,dz D.symm,b_],
    by rw[<- am,dz aK.symm,dz a6.symm,b_],by rw[<- am,b_],own.nil ..,by rw[<- am];exact eG (eG sub0 hm) h8⟩
  ·rintro k a s' ⟨o,aj,ho⟩ ⟨vs,t8,ys,q1,q2,q3,q4,q5,q6,q7,q8⟩;cases o with
   | none =>
    obtain rfl:a=_:=ho;have aF:none∈mvsN W (calJ ca) ln:=by
     have h1:∀l:List (Option Mv),none∈cutO l->none∈l:=λl=>by
      induction l with
      | nil=>exact id
      | cons a l ih =>
       cases a with
       | none=>exact λ_=>.head _
       | some a =>
        intro h;simp only[cutO] at h;rcases dF.1 h with h|h
        ·cases h
        ·exact .tail _ (ih h)
     exact h1 _ (lMg aj)
    simp only[go_sem,zE,zA,zL,show decide ((5:Int)=0)=false from rfl,q4,q5,dz D];exact⟨rfl,by rw[dz D.symm,b_],b_ ..,aF,eG (eG q8 h4) h5⟩
   | some v =>
    obtain⟨xv,rfl,tv,zv,rfl,bp,aD⟩:=ho;have bo:some v∈mvsN W (calJ ca) ln:=by
     have h1:∀l:List (Option Mv),some v∈cutO l->some v∈l:=λl=>by
      induction l with
      | nil=>exact id
      | cons a l ih =>
       cases a with
       | none=>intro h;simp[cutO] at h
       | some a =>
        intro h;simp only[cutO] at h;rcases dF.1 h with h|h
        ·rw[h];exact .head _
        ·exact .tail _ (ih h)
     exact h1 _ (lMg aj)
    obtain⟨g1,g2,g3,g4⟩:=vv hS ab bo;obtain⟨f,hf⟩:=dD g1;obtain⟨z,hz,ba⟩:=ay.get hf;have bw:=λst=>mZ gl f z ba (dN (hS.size (lMg hf)) (by omega)) st;obtain⟨og,ng,ug,sg,rfl⟩:∃o n u s,f=.mk o n u s:=by cases f;exact⟨_,_,_,_,rfl⟩
    obtain⟨bR,bL,bQ,bK,rfl,b0⟩:=ba.mk;simp only[go_sem,zE,zB,zA,zL,fits,dC,dB J,iNn,hz,IV.one];refine (bw _).mono ?_;rintro r s2 ⟨hr,rfl⟩;obtain⟨o1,n1,t5,x5,t6,x6,rfl⟩:=iK hr;simp only[go_sem,zE,zA,zL,fits];intro _;refine dt zv.length (λq fr st' ds=>(∃t3 x3,fr 11=.box [.raw (.int .u8 (v.1:Int)),.raw (.int .u8 o1),n1,.sl t5 x5,.sl t6 x6,.sl t3 x3]/\AllR (λp y=>IsSq ⟨p.1,p.2⟩ y) ((v.2.2.take q).map (lnW W)) x3/\own st' t3 q 2 st/\SpSt ca m W st'/\st' b4=some (.box [()])/\st' b5=some (.box [(0:Int)]) /\
     st' b8=some (.box [.sl t8 ys])/\own st' t8 vs.length 6 st/\subSt st st')/\fr 6=.iv (.cptr (spI ca tw xw m))/\fr 46=.iv (.sl tv zv)/\fr 47=zv.length/\fr 48=(q:Int)/\fr 4=(ptr b4)/\fr 5=(ptr b5)/\fr 8=(ptr b8)/\ds=[]) ?_ ?_ ?_
    ·simp only[go_sem,zE];exact⟨⟨_,_,rfl,AllR.nil,own.nil ..,q3,q4,q5,q6,q7,q8⟩,rfl⟩
    ·rintro q fr s3 _ hq ⟨⟨t3,x3,f11,al,O,q3,q4,q5,q6,q7,q8⟩,f6,f46,f47,f48,f4,f5,f8,rfl⟩;have aE:=aD.1;obtain⟨p,hp⟩:=dD (l:=v.2.2) (k:=q) (by rw[<- aE];exact hq);obtain⟨zq,bk,ax⟩:=aD.2 q p hp;obtain⟨g5,g6⟩:=g4 p (lMg hp);have bq:=λst=>O5 gl ca m W hS tw xw J ay p g5 zq ax st;obtain⟨bT,bS,rfl,cc,cb⟩:=ax;simp only[go_sem,zE,zB,zA,zL,f11,f6,f46,f47,f48,lt_i hq,dB bp,iNn,bk,fits,IV.one];refine (bq _).mono ?_;rintro _ s3 ⟨⟨t7,x7,t9,x9,rfl,e7,i7,e9,i9⟩,rfl⟩;have aX:x3.length=q:=by rw[al.1,dP,dU];omega
     simp only[go_sem,zE,zA,zM,zL,fits,eh];refine ij O aX q8 rfl (by simp[fits,IV.one]) (by simp only;omega) (by omega) λbg s4 w1 w2 w3=>?_;obtain⟨av,u1,u2⟩:=q3;simp only[go_sem,zE,zA,zL,f11,f6,f46,f47,f48,f4,f5,f8,dL hq (by omega)];refine⟨bg,_,rfl,?_,w1,⟨av,w3 _ _ u1 (λn h=>by cases h),u2⟩,w3 _ _ q4 (λn h=>by cases h),w3 _ _ q5 (λn h=>by cases h),w3 _ _ q6 (λn h=>by cases h),w3.own q7 (by decide),w2⟩;rw[dM hp,eQ];exact al.snoc ⟨t7,x7,t9,x9,rfl,e7,i7,e9,i9⟩
    ·rintro fr s3 _ ⟨⟨t3,x3,f11,al,O,q3,q4,q5,q6,q7,q8⟩,f6,f46,f47,f48,f4,f5,f8,rfl⟩;have aE:=aD.1;rw[aE,lTl] at al;have bl:ys.length=vs.length:=by rw[q2.1,dP]
     have bY:vs.length<=16000000:=by
      have h1:∀l:List (Option Mv),(cutO l).length<=l.length:=λl=>by
       induction l with
       | nil=>exact dG _
       | cons a l ih =>
        cases a with
        | none=>simp[cutO]
        | some a=>simp only[cutO,dX];omega
      have h2:=dZ List.length q1;rw[dU,dP] at h2;have h3:=h1 (mvsN W (calJ ca) ln);have h4:=zK hS aI ab;omega
     simp only[go_sem,zE,zA,zM,zL,f11,f47,f48,f8,dS (nLi _),q6,fits,eh];refine ij q7 bl q8 rfl (by simp[fits,IV.one]) (by simp only;omega) (by omega) λbf s4 w1 w2 w3=>?_;have bb:=w3 _ _ q6 (λn h=>by cases h);simp only[go_sem,zE,zL,f8,bb];obtain⟨av,u1,u2⟩:=q3;refine⟨vs++[v],bf,_,?_,?_,⟨av,by rw[dz aJ.symm];exact w3 _ _ u1 (λn h=>by cases h),u2⟩,by rw[dz aL.symm];exact w3 _ _ q4 (λn h=>by cases h),by rw[dz aK.symm];exact w3 _ _ q5 (λn h=>by cases h),b_ ..,?_,eG w2 h8⟩
     ·rw[dM aj,q1,eQ];rfl
     ·rw[eQ];refine q2.snoc ⟨o1,n1,t5,x5,t6,x6,t3,x3,rfl,?_,O.es,al⟩;show IsFm ((W[v.2.1]?).getD fm0) _;rw[hf];exact hr.1
     ·rw[lLa];refine w1.mono λg hg _=>?_;rw[dz λe=>by rw[e,bb] at hg;cases hg];exact hg
  ·rintro s' rr ⟨vs,t8,ys,q1,q2,q3,q4,q5,q6,q7,q8⟩;rw[lTl] at q1;have aA:mvsN W (calJ ca) ln=vs.map some:=by
    have h1:∀l:List (Option Mv),none ∉ cutO l->cutO l=l:=λl=>by
     induction l with
     | nil=>intro _;rfl
     | cons a l ih =>
      intro h;cases a with
      | none=>exact absurd (.head _) h
      | some a=>simp only[cutO] at h ⊢;rw[ih λh'=>h (.tail _ h')]
    rw[<- q1,h1];rw[q1];simp
   have a1:=zR hS ab aA;have ak:=vw hS ab (j:=calJ ca);rw[aZ] at a1 ak;simp only[go_sem,zE,zL,q4,q5,q6,dz D,dz D.symm];refine⟨st,eG (eG q8 h4) h5,rfl,.inr (.inr ⟨hc,hv,.inr ⟨λh=>?_,t8,ys,q7.es,by rw[a1];exact q2,rfl⟩⟩)⟩;have:=ak.2 h;rw[aA] at this;simp at this
  ·rintro e s' rr ⟨rfl,w1,w2,w3,w4⟩;simp only[go_sem,zE,w1,w2];have ak:=(vw hS ab (j:=calJ ca)).1 w3;rw[aZ] at ak;exact⟨st,w4,rfl,.inr (.inr ⟨hc,hv,.inl ⟨ak,rfl⟩⟩)⟩
end Go.Proofs.Tryz
namespace Go.Proofs.Tryz
open Go Go.Iv
noncomputable def insC (a:Fm):List Fm->List Fm
 | []=>[a]
 | b::l=>if eK a b<0 then a::b::l else if eK a b=0 then b::l else b::insC a l
noncomputable def setC:List Fm->List Fm
 | []=>[]
 | a::l=>insC a (setC l)
def zUw {a x:Fm}:∀ {l:List Fm},x∈insC a l↔x=a\/x∈l
 | []=>by simp[insC]
 | b::l=>by
  unfold insC;split
  ·simp
  ·split
   ·rename_i h;rw[(kc a b).1 h];simp
   ·rw[dF,zUw,dF];grind
def GC {a:Fm}:∀ {l:List Fm},l.Pairwise (λx y=>eK x y<0)->(insC a l).Pairwise (λx y=>eK x y<0)
 | [],_=>by simp[insC]
 | b::l,h=>by
  obtain⟨h1,h2⟩:=jL.1 h;unfold insC;split
  ·rename_i E;refine jL.2 ⟨λx D=>?_,h⟩;rcases dF.1 D with rfl|D
   ·exact E
   ·exact oR _ _ _ E (h1 x D)
  ·split
   ·exact h
   ·rename_i G h0;refine jL.2 ⟨λx D=>?_,GC h2⟩;rcases zUw.1 D with rfl|D
    ·have:=qp x b;omega
    ·exact h1 x D
def GD:∀l:List Fm,SetF l (setC l)
 | []=>⟨List.Pairwise.nil,λ_=>Iff.rfl⟩
 | a::l=>by
  obtain⟨h1,h2⟩:=GD l;refine⟨GC h1,λf=>?_⟩;show f∈insC a (setC l)↔_;rw[zUw,h2,dF]
def GF (l:List Fm):setF l=setC l:=my (GD l)
noncomputable def nfC (s:Sn):Sn:=(setC s.1,setC s.2)
def nf_C (s:Sn):nf s=nfC s:=by unfold nf nfC;rw[GF,GF]
noncomputable def pmC (j:Bool)(s p:Sn):Sn:=nfC (s.1++p.1,rgt j s.2 p.2)
noncomputable def mvC (j:Bool)(s:Sn):List (List Sn):=(s.1.flatMap λf=>(addF j f false).map λt=>t.2.map (pmC j s))++s.2.flatMap λf=>(addF j f true).map λt=>t.2.map (pmC j s)
def O7 (j:Bool)(s:Sn):(mvF j s).map (λm=>m.2.2)=mvC j s:=by
 have key:∀(r:Bool) (l:List Fm),(l.flatMap (jB j s r)).map (λm=>m.2.2)=l.flatMap λf=>(addF j f r).map λt=>t.2.map (pmC j s):=λr l=>by
  rw[List.map_flatMap];congr 1;funext f;unfold jB;rw[gZ];refine kB λt _=>?_;refine kB λp _=>?_;exact nf_C _
 unfold mvF mvC;rw[eQ,key,key]
noncomputable def clC (s:Sn):Bool:=s.1.any λf=>s.2.any (λg=>decide (eK f g=0)) || jU f
def oU (s:Sn):clC s=true↔ClF s.1 s.2:=by
 unfold clC ClF;simp only[gk,gL,dTe,kc];constructor
 ·rintro⟨f,D,⟨g,E,rfl⟩|h⟩
  ·exact .inl ⟨_,D,E⟩
  ·exact .inr ⟨f,D,h⟩
 ·rintro (⟨f,h1,h2⟩|⟨f,h1,h2⟩)
  ·exact⟨f,h1,.inl ⟨f,h2,rfl⟩⟩
  ·exact⟨f,h1,.inr h2⟩
def O8 {j r:Bool}{f:Fm}{t:Nat×List Sn}(h:t∈addF j f r):∀p∈t.2,p.1.length<=2/\p.2.length<=2:=by
 unfold addF at h;split at h
 case h_5=>split at h<;>simp at h<;>(try rcases h with rfl|rfl)<;>(try subst h)<;>simp
 all_goals (first|(simp at h;subst h;simp)|(simp at h))
def at0 (l:List Nat)(i:Nat):Nat:=(l[i]?).getD 0
noncomputable def GG:DecidableEq Fm:=λa b=>decidable_of_iff (eK a b=0) (kc a b)
def GH (n:Nat)(cl:List Bool)(lk:List (List (List Nat)))(hs:List Nat):Bool :=
 (List.range n).all λi=>(decide (i=0) || (List.range i).any λk=>!((cl[k]?).getD true)&&((lk[k]?).getD []).any (·.contains i)) &&
  (if (cl[i]?).getD true=true then decide (at0 hs i=1) else
   (decide (at0 hs i=0) || ((lk[i]?).getD []).any λps=>ps.all λp=>decide (0<at0 hs p)&&decide (at0 hs p<at0 hs i)) &&
   (((lk[i]?).getD []).all λps=>(ps.all λp=>decide (p<n))&&((ps.any λp=>decide (at0 hs p=0)) || (decide (0<at0 hs i)&&ps.any λp=>decide (at0 hs i<=at0 hs p+1)))))
structure Cert (j:Bool)(K:List Sn)(cl:List Bool)(lk:List (List (List Nat)))(hs:List Nat):Prop where
 norm:K.map nfC=K
 nd:K.Nodup
 cls:K.map clC=cl
 mvs:K.map (λs=>if clC s=true then [] else mvC j s)=lk.map (·.map (·.map λn=>(K[n]?).getD ([],[])))
 num:GH K.length cl lk hs=true
 short:(K.all λs=>decide (s.1.length<=60)&&decide (s.2.length<=60))=true
 len:K.length<=20000
section
variable {j:Bool}{K:List Sn}{cl:List Bool}{lk:List (List (List Nat))}{hs:List Nat}(h:Cert j K cl lk hs)
include h
def Cert.at_ {i:Nat}{s:Sn}(D:K[i]?=some s):(cl[i]?).getD true=clC s/\(clC s=false->mvC j s=((lk[i]?).getD []).map (·.map λn=>(K[n]?).getD ([],[]))):=by
 have h1:cl[i]?=some (clC s):=by rw[<- h.cls,eB,D];rfl
 have h2:=dZ (λl=>l[i]?) h.mvs;simp only[eB,D,eJ] at h2;refine⟨by rw[h1];rfl,λhc=>?_⟩;rw[hc] at h2;simp only[bFt,dE] at h2;cases hl:lk[i]? with
 | none=>rw[hl] at h2;cases h2
 | some l=>rw[hl] at h2;exact eC h2
def Cert.num_ {i:Nat}(D:i<K.length):(i=0\/∃k,k<i/\(cl[k]?).getD true=false/\∃ps∈(lk[k]?).getD [],i∈ps)/\((cl[i]?).getD true=true->at0 hs i=1) /\
  ((cl[i]?).getD true=false->(at0 hs i=0\/∃ps∈(lk[i]?).getD [],∀p∈ps,0<at0 hs p/\at0 hs p<at0 hs i)/\∀ps∈(lk[i]?).getD [],(∀p∈ps,p<K.length)/\((∃p∈ps,at0 hs p=0)\/(0<at0 hs i/\∃p∈ps,at0 hs i<=at0 hs p+1))):=by
 have:=eF.1 h.num i (jK.2 D);rw[bAt] at this;obtain⟨h1,h2⟩:=this;refine⟨?_,λhc=>?_,λhc=>?_⟩
 ·simp only[gL,dTe,gk,jK,bAt,mc,List.contains_iff_mem] at h1;exact h1
 ·rw[cX hc] at h2;exact fe h2
 ·rw[a_ (by rw[hc];exact Bool.false_ne_true)] at h2;simp only[gL,dTe,gk,bAt,eF] at h2;exact h2
def Cert.mv {i:Nat}{s:Sn}(E:K[i]?=some s)(hc:clC s=false)(P:List Sn->Prop):(∃m∈mvF j s,P m.2.2)↔∃ps∈(lk[i]?).getD [],P (ps.map λn=>(K[n]?).getD ([],[])):=by
 have h1:=(h.at_ E).2 hc;rw[<- O7] at h1;constructor
 ·rintro⟨m,D,hp⟩;have:m.2.2∈(mvF j s).map (λm=>m.2.2):=gh D;rw[h1] at this;obtain⟨ps,h2,J⟩:=dH.1 this;exact⟨ps,h2,J▸hp⟩
 ·rintro⟨ps,h2,hp⟩;have:(ps.map λn=>(K[n]?).getD ([],[]))∈(mvF j s).map (λm=>m.2.2):=by rw[h1];exact gh h2
  obtain⟨m,D,G⟩:=dH.1 this;exact⟨m,D,G▸hp⟩
def Cert.up:∀(x i:Nat)(s:Sn),K[i]?=some s->at0 hs i=x->0<x->HtS j x s:=by
 intro x
 induction x using Nat.strongRecOn with
 | ind x ih =>
  intro i s G hx h0;have E:=(lGs G).1;obtain⟨_,n1,n2⟩:=h.num_ E;obtain⟨y,rfl⟩:∃y,x=y+1:=⟨x-1,by omega⟩
  rw[yGs];cases hc:clC s with
  | true=>exact .inl ((oU s).1 hc)
  | false =>
   refine .inr ((h.mv G hc λl=>∀p∈l,HtS j y p).2 ?_);obtain⟨J,n4⟩:=n2 (by rw[(h.at_ G).1];exact hc);rcases J with J|⟨ps,h1,h2⟩
   ·omega
   ·refine⟨ps,h1,λp hp=>?_⟩;obtain⟨n,O,rfl⟩:=dH.1 hp;have D:=(n4 ps h1).1 n O;obtain⟨a,b⟩:=h2 n O;rw[dT D,ez];have:=ih (at0 hs n) (by omega) n _ (dT D) rfl a;exact this.up (by omega)
def Cert.lo:∀(n i:Nat)(s:Sn),K[i]?=some s->HtS j n s->0<at0 hs i/\at0 hs i<=n
 | 0,_,_,_,D=>D.elim
 | n+1,i,s,O,D=>by
  have J:=(lGs O).1;obtain⟨_,n1,n2⟩:=h.num_ J;have G:=(h.at_ O).1;cases hc:clC s with
  | true =>
   have:=n1 (by rw[G];exact hc);omega
  | false =>
   obtain⟨_,n4⟩:=n2 (by rw[G];exact hc);rw[yGs] at D;rcases D with D|D
   ·rw[<- oU,hc] at D;cases D
   ·obtain⟨ps,h1,h2⟩:=(h.mv O hc λl=>∀p∈l,HtS j n p).1 D;obtain⟨n5,n6⟩:=n4 ps h1;have hp:∀p∈ps,0<at0 hs p/\at0 hs p<=n:=λp hp=>by
     have:=h2 _ (gh hp);rw[dT (n5 p hp),ez] at this;exact Cert.lo n p _ (dT (n5 p hp)) this
    rcases n6 with⟨p,E,h0⟩|⟨h0,p,E,ag⟩
    ·have:=(hp p E).1;omega
    ·have:=(hp p E).2;exact⟨h0,by omega⟩
def Cert.hF {i:Nat}{s:Sn}(D:K[i]?=some s):Tryz.hF j s=at0 hs i :=
 vc (λh0=>h.up _ i s D rfl h0) λn E=>h.lo n i s D E
def Cert.reach {s0:Sn}(h0:K[0]?=some s0):ReachOk j s0 K:=by
 have hr:∀(i:Nat) (s:Sn),K[i]?=some s->Rch j s0 s:=by
  intro i
  induction i using Nat.strongRecOn with
  | ind i ih =>
   intro s D;have af:=(lGs D).1;rcases (h.num_ af).1 with rfl|⟨k,hk,ah,ps,G,ag⟩
   ·rw[h0] at D;cases D;exact .refl
   ·obtain⟨sk,E⟩:=dD (l:=K) (k:=k) (by omega);have hc:clC sk=false:=by rw[<- (h.at_ E).1];exact ah
    obtain⟨m,hm,ac⟩:=(h.mv E hc λl=>s∈l).2 ⟨ps,G,dH.2 ⟨i,ag,by rw[D];rfl⟩⟩;exact .step (ih k hk sk E) (λhx=>by rw[<- oU,hc] at hx;cases hx) hm ac
 refine⟨h.nd,λs=>⟨λhs=>?_,λhs=>?_⟩,λs hs hc=>?_,h.len⟩
 ·obtain⟨i,D,rfl⟩:=fR.1 hs;exact hr i _ (dT D)
 ·induction hs with
  | refl=>exact lMg h0
  | @step s _ hc m hm p hp ih =>
   obtain⟨i,D,rfl⟩:=fR.1 ih;have O:clC K[i]=false:=by
    cases hq:clC K[i] with
    | false=>rfl
    | true=>exact absurd ((oU _).1 hq) hc
   obtain⟨ps,G,ab⟩:=(h.mv (dT D) O λl=>p∈l).1 ⟨m,hm,hp⟩;obtain⟨n,hn,rfl⟩:=dH.1 ab;have J:=(((h.num_ D).2.2 (by rw[(h.at_ (dT D)).1];exact O)).2 ps G).1 n hn;rw[dT J];exact jI J
 ·rintro⟨f,r,hf,t,ht,p,hp,hl⟩;have h1:=O8 ht p hp;have h2:=eF.1 h.short s hs;simp only[bAt,dTe] at h2;unfold tooL at hl;split at hl<;>omega
end
set_option maxRecDepth 100000
abbrev faP:Fm:=.mk 1 ⟨#[80]⟩ [] []
abbrev faQ:Fm:=.mk 1 ⟨#[81]⟩ [] []
abbrev fno (a:Fm):Fm:=.mk 3 noN [] [a]
abbrev fbi (o:Nat)(a b:Fm):Fm:=.mk o noN [] [a,b]
noncomputable def GI (K:List Sn):Decidable K.Nodup:=@List.nodupDecidable Sn (@instDecidableEqProd _ _ (@instDecidableEqList _ GG) (@instDecidableEqList _ GG)) K
def l_ {j:Bool}{K:List Sn}{cl:List Bool}{lk:List (List (List Nat))}{hs:List Nat}(h1:K.map nfC=K)(h2:@decide K.Nodup (GI K)=true)(O:K.map clC=cl)
  (J:K.map (λs=>if clC s=true then [] else mvC j s)=lk.map (·.map (·.map λn=>(K[n]?).getD ([],[])))) (G:GH K.length cl lk hs=true) (E:(K.all λs=>decide (s.1.length<=60)&&decide (s.2.length<=60))=true) (D:K.length<=20000):Cert j K cl lk hs :=
 ⟨h1,@fe K.Nodup (GI K) h2,O,J,G,E,D⟩
def c1K:List Sn:=[([faP,(fbi 6 faP faQ)],[faQ]),([faP,(fbi 6 faP faQ)],[faP]),([faP,faQ,(fbi 6 faP faQ)],[faQ])]
def c1:Cert true c1K [false,true,true] [[[1,2]],[],[]] [2,1,1]:=l_ (by kernel_rfl) (by kernel_rfl) (by kernel_rfl) (by kernel_rfl) (by kernel_rfl) (by kernel_rfl) (by decide)
def c2K:List Sn:=[([],[(fbi 5 faP (fno faP))]),([],[faP,(fno faP),(fbi 5 faP (fno faP))]),([faP],[faP,(fno faP),(fbi 5 faP (fno faP))])]
def c2:Cert false c2K [false,false,true] [[[1]],[[2],[1]],[]] [3,2,1]:=l_ (by kernel_rfl) (by kernel_rfl) (by kernel_rfl) (by kernel_rfl) (by kernel_rfl) (by kernel_rfl) (by decide)
def c3K:List Sn:=[([],[(fbi 5 faP (fno faP))]),([],[faP]),([],[(fno faP)]),([faP],[(fno faP)])]
def c3:Cert true c3K [false,false,false,false] [[[1],[2]],[],[[3]],[[3]]] [0,0,0,0]:=l_ (by kernel_rfl) (by kernel_rfl) (by kernel_rfl) (by kernel_rfl) (by kernel_rfl) (by kernel_rfl) (by decide)
def c4K:List Sn:=[([],[(fno (fno (fbi 5 faP (fno faP))))]),([(fno (fbi 5 faP (fno faP)))],[(fno (fno (fbi 5 faP (fno faP))))]),([(fno (fbi 5 faP (fno faP)))],[(fbi 5 faP (fno faP))]),([(fno (fbi 5 faP (fno faP)))],[faP]),([(fno (fbi 5 faP (fno faP)))],[(fno faP)]),([faP,(fno (fbi 5 faP (fno faP)))],[(fno faP)]),([faP,(fno (fbi 5 faP (fno faP)))],[(fbi 5 faP (fno faP))]),([faP,(fno (fbi 5 faP (fno faP)))],[faP])]
def c4:Cert true c4K [false,false,false,false,false,false,false,true] [[[1]],[[2],[1]],[[2],[3],[4]],[[2]],[[2],[5]],[[6],[5]],[[6],[7],[5]],[]] [7,6,5,6,4,3,2,1]:=l_ (by kernel_rfl) (by kernel_rfl) (by kernel_rfl) (by kernel_rfl) (by kernel_rfl) (by kernel_rfl) (by decide)
def c5K:List Sn:=[([(fbi 6 faP (fbi 6 faP faQ))],[(fbi 6 faP faQ)]),([(fbi 6 faP (fbi 6 faP faQ))],[faP,(fbi 6 faP faQ)]),([(fbi 6 faP faQ),(fbi 6 faP (fbi 6 faP faQ))],[(fbi 6 faP faQ)]),([faP,(fbi 6 faP (fbi 6 faP faQ))],[faQ,(fbi 6 faP faQ)]),([(fbi 6 faP faQ),(fbi 6 faP (fbi 6 faP faQ))],[faP,(fbi 6 faP faQ)]),([faP,(fbi 6 faP (fbi 6 faP faQ))],[faP,faQ,(fbi 6 faP faQ)]),([faP,(fbi 6 faP faQ),(fbi 6 faP (fbi 6 faP faQ))],[faQ,(fbi 6 faP faQ)])]
def c5:Cert false c5K [false,false,true,false,true,true,true] [[[1,2],[3]],[[1,4],[5]],[],[[5,6],[3]],[],[],[]] [3,2,1,2,1,1,1]:=l_ (by kernel_rfl) (by kernel_rfl) (by kernel_rfl) (by kernel_rfl) (by kernel_rfl) (by kernel_rfl) (by decide)
def c6K:List Sn:=[([(fbi 6 faP (fbi 6 faP faQ))],[(fbi 6 faP faQ)]),([(fbi 6 faP (fbi 6 faP faQ))],[faP]),([(fbi 6 faP faQ),(fbi 6 faP (fbi 6 faP faQ))],[(fbi 6 faP faQ)]),([faP,(fbi 6 faP (fbi 6 faP faQ))],[faQ]),([(fbi 6 faP faQ),(fbi 6 faP (fbi 6 faP faQ))],[faP]),([faP,(fbi 6 faP (fbi 6 faP faQ))],[faP]),([faP,(fbi 6 faP faQ),(fbi 6 faP (fbi 6 faP faQ))],[faQ]),([faQ,(fbi 6 faP faQ),(fbi 6 faP (fbi 6 faP faQ))],[faP]),([faP,(fbi 6 faP faQ),(fbi 6 faP (fbi 6 faP faQ))],[faP]),([faP,faQ,(fbi 6 faP faQ),(fbi 6 faP (fbi 6 faP faQ))],[faQ])]
def c6:Cert true c6K [false,false,true,false,false,true,false,false,true,true] [[[1,2],[3]],[[1,4]],[],[[5,6]],[[4,7],[4,4]],[],[[8,9],[8,6]],[[7,7],[7,7]],[],[]] [4,0,1,3,0,1,2,0,1,1]:=l_ (by kernel_rfl) (by kernel_rfl) (by kernel_rfl) (by kernel_rfl) (by kernel_rfl) (by kernel_rfl) (by decide)
def oV {j:Bool}{K:List Sn}{cl:List Bool}{lk:List (List (List Nat))}{hs:List Nat}(h:Cert j K cl lk hs){s:Sn}(h0:K[0]?=some (nfC s)):hF j s=at0 hs 0/\ReachOk j (nf s) K:=by
 rw[<- zo,nf_C];exact⟨h.hF h0,h.reach h0⟩
def aw2:hF false ([],[fbi 5 faP (fno faP)])=3/\ReachOk false (nf ([],[fbi 5 faP (fno faP)])) c2K:=oV c2 (by kernel_rfl)
def aw3:hF true ([],[fbi 5 faP (fno faP)])=0/\ReachOk true (nf ([],[fbi 5 faP (fno faP)])) c3K:=oV c3 (by kernel_rfl)
noncomputable def mvD (j:Bool)(s:Sn):List (Nat×Fm×List Sn):=(s.1.flatMap λf=>(addF j f false).map λt=>(t.1,f,t.2.map (pmC j s)))++s.2.flatMap λf=>(addF j f true).map λt=>(t.1,f,t.2.map (pmC j s))
def z7 (j:Bool)(s:Sn):mvF j s=mvD j s:=by
 have h:np j s=pmC j s:=funext λp=>nf_C _;unfold mvF jB mvD;rw[h]
abbrev orP:Fm:=fbi 5 faP (fno faP)
def sB {l:List Fm}{f:Fm}(h:(decide (l.length<=64)&&l.all (fmB 2)&&fmB 2 f)=true):en 2 ⟨l,[f]⟩=true:=by
 simp only[bAt] at h;obtain⟨⟨h1,h2⟩,D⟩:=h;have E:f.right=true:=by unfold fmB at D;exact (bAt _ _▸D).1
 unfold en;have G:eqF f f=true:=by unfold eqF mn;rw[E,dEt rfl];simp[eqB]
 simp only[h1,h2,D,p_,jE,List.all_nil,G,Bool.and_true,Bool.or_true];rfl
def awv2:en 1 ⟨[],[orP]⟩=true:=by kernel_rfl
def awv3:en 2 ⟨[],[orP]⟩=true:=sB (by kernel_rfl)
def ReachOk.no' {j:Bool}{s0:Sn}{K:List Sn}(h:ReachOk j s0 K){e:Nat}(D:qv j s0 e):False:=h.no .refl D
def ReachOk.top {j:Bool}{s0:Sn}{K:List Sn}(h:ReachOk j s0 K)(hc:¬ ClF s0.1 s0.2):¬ nq j s0:=h.short s0 ((h.mem s0).2 .refl) hc
end Go.Proofs.Tryz
namespace Go.Proofs.Tryz
open Go Go.Iv
set_option maxRecDepth 4000
variable (gl:Nat->Option IV)
abbrev sI (s:Sq):IV:=.agg [.sl (tagF s.l) (fmsI s.l),.sl (tagF s.r) (fmsI s.r)]
def sD (s:Sq)(h:(p8 s.l&&p8 s.r)=true):IsSq s (sI s):=by
 rw[bAt] at h;exact⟨_,_,_,_,rfl,yb _,uF _ h.1,yb _,uF _ h.2⟩
def oW (G:Gl gl)(T:Gt gl)(ca:Nat)(s:Sq)(hc:ca=1\/ca=2)(hv:en ca s=true){n:Nat}{K:List Sn}(hK:hF (calJ ca) (s.l,s.r)=n/\ReachOk (calJ ca) (nf (s.l,s.r)) K)(x:IV)(E:IsSq s x)(hs:fY s)(st:ISt) :
  ICall prog gl 38 [.raw (.int .u8 (ca:Int)),x] st (λr st'=>r=.tup [(n:Int),(0:Int)]/\st'=st) :=
 (Gz gl G T ca s x E hs st).mono λr st' ⟨h1,h2⟩=>by
  rcases h2 with⟨e,J,_⟩|⟨_,_,_,D⟩
  ·rcases J.1 with⟨h,_⟩|⟨_,h,_⟩|⟨_,_,h⟩
   ·exact (h hc).elim
   ·rw[hv] at h;cases h
   ·exact (hK.2.no' h).elim
  ·rw[hK.1] at D;exact⟨D,h1⟩
def O9 (G:Gl gl)(T:Gt gl)(ca:Nat)(s:Sq)(hc:ca=1\/ca=2)(hv:en ca s=true)(E:¬ nq (calJ ca) (nf (s.l,s.r)))(x:IV)(D:IsSq s x)(hs:fY s)(st:ISt) :
  ICall prog gl 98 [.raw (.int .u8 (ca:Int)),x] st (λr st'=>(∃t ys,okEs t 6/\AllR gV (mvF (calJ ca) (nf (s.l,s.r))) ys/\r=.tup [.sl t ys,(0:Int)])/\st'=st) :=
 (O6 gl G T ca s x D hs st).mono λr st' ⟨h1,h2⟩=>by
  rcases h2 with⟨h,_⟩|⟨_,h,_⟩|⟨_,_,⟨h,_⟩|⟨_,J⟩⟩
  ·exact (h hc).elim
  ·rw[hv] at h;cases h
  ·exact (E h).elim
  ·exact⟨J,h1⟩
end Go.Proofs.Tryz
namespace Go.Proofs.Tryz
open Go Go.Iv
def qJ {ca:Nat}{s:Sq}(h:en ca s=true):∀f∈s.l++s.r,fmB ca f=true:=by
 unfold en at h;simp only[bAt,dTe,eF] at h;obtain⟨⟨⟨⟨⟨_,hl⟩,J⟩,E⟩,D⟩,_⟩:=h;exact λf G=>(dQ.1 G).elim (E f) (D f)
def GJ (l:List Fm):(setF l).Nodup:=by
 have:=(zb l).1;exact this.imp λ{a b} h=>by rintro rfl;rw[(kc a a).2 rfl] at h;omega
def O_ {f:Fm}(hf:PF f):∀g∈cloF f,PF g:=by
 induction hf with
 | atom n=>intro g D;simp[cloF,eZ,gJ] at D;subst D;exact .atom n
 | fls=>intro g D;simp[cloF,eZ,gJ] at D;subst D;exact .fls
 | neg h ih =>
  intro g D;rcases zXe.1 D with rfl|D
  ·exact .neg h
  ·exact ih g D
 | bin h4 h7 O J G E =>
  intro g D;rcases zO D with rfl|⟨_,rfl|rfl⟩|D|D
  ·exact .bin h4 h7 O J
  ·exact .bin (by decide) (by decide) O J
  ·exact .bin (by decide) (by decide) J O
  ·exact G g D
  ·exact E g D
def Pb {l:List Fm}(hp:∀f∈l,PF f):Full (eZ l)/\∀f∈eZ l,PF f:=by
 refine⟨λf G j r t ht p D=>?_,λf G=>?_⟩
 ·obtain⟨f0,h0,h1⟩:=yKe.1 G;obtain⟨O,J⟩:=Gh (hp f0 h0) f h1 j r t ht p D;exact⟨λg E=>yKe.2 ⟨f0,h0,O g E⟩,λg E=>yKe.2 ⟨f0,h0,J g E⟩⟩
 ·obtain⟨f0,h0,h1⟩:=yKe.1 G;exact O_ (hp f0 h0) f h1
def GK {l:List Fm}{f:Fm}(h:f∈l):f∈eZ l:=yKe.2 ⟨f,h,qE f⟩
def refuted {L R:List Fm}(hp:∀f∈L++R,PF f)(h:hF false (L,R)=0):∃v:ByteArray->Bool,(∀f∈L,tr v f=true)/\∀f∈R,tr v f=false:=by
 obtain⟨h1,h2⟩:=Pb hp;exact UnP.refuted h1 h2 _ L R (λf D=>GK (gg _ D)) (λf D=>GK (fV _ D)) (xVj.1 h) (dG _)
def GL {j:Bool}{s0:Sn}:∀(n:Nat) (s:Sn),Rch j s0 s->hF j s=n->∃L:List Sn,L.length=n/\L.Nodup/\∀t∈L,Rch j s0 t/\hF j t<=n
 | 0,s,_,_=>⟨[],rfl,jg,nofun⟩
 | 1,s,h,he=>⟨[s],rfl,by simp,λt ht=>by rw[dR.1 ht];exact⟨h,by omega⟩⟩
 | n+2,s,h,he=>by
  have hc:¬ ClF s.1 s.2:=λhc=>by rw[NR hc] at he;omega
  have hp:=zn (j:=j) (s:=s) (by omega);rw[he] at hp;obtain⟨m,hm,E⟩:=(yGs.1 hp).resolve_left hc;have O:∃p∈m.2.2,hF j p=n+1:=by
   apply gM;intro J;have:HtS j (n+1) s:=yGs.2 (.inr ⟨m,hm,λp D=>by
    have h1:=nr (E p D);have h2:hF j p≠n+1:=λh=>J ⟨p,D,h⟩;exact h1.1.up (by omega)⟩)
   have:=(nr this).2.1;omega
  obtain⟨p,D,G⟩:=O;obtain⟨L,h1,h2,h3⟩:=GL (n+1) p (.step h hc hm D) G;refine⟨s::L,by rw[dX,h1],gN.2 ⟨λhs=>?_,h2⟩,λt ht=>?_⟩
  ·have:=(h3 s hs).2;omega
  ·rcases dF.1 ht with rfl|ht
   ·exact⟨h,by omega⟩
   ·exact⟨(h3 t ht).1,by have:=(h3 t ht).2;omega⟩
def ReachOk.height {j:Bool}{s0 s:Sn}{K:List Sn}(h:ReachOk j s0 K)(D:Rch j s0 s):hF j s<=K.length:=by
 obtain⟨L,h1,h2,E⟩:=GL _ s D rfl;rw[<- h1];exact qw h2 λt ht=>(h.mem t).2 (E t ht).1
end Go.Proofs.Tryz
namespace Go.Proofs.Tryz
open Go Go.Iv
set_option maxRecDepth 4000
variable (gl:Nat->Option IV)
def Pd (l m:List Sq)(t t':Tag)(xs ys:List IV)(ht:okEs t 2)(ag:okEs t' 2)(hx:IsSqs l xs)(hy:IsSqs m ys)(st:ISt) :
  ICall prog gl 22 [.sl t xs,.sl t' ys] st (λr st'=>r=(eqB l m:Bool)/\st'=st):=by
 refine iI func22 ?_;simp only[go_sem,zE,reduceCtorEq,hx.len,hy.len];intro an am;by_cases D:l.length=m.length
 case neg =>
  simp only[go_sem,show decide (((l.length:Nat):Int)=m.length)=false from dEf (by omega)];exact c_ ⟨by rw[yQq.2 λh=>D (by rw[h])],rfl⟩
 simp only[go_sem,show decide (((l.length:Nat):Int)=m.length)=true from dEt (by omega)];refine dt l.length (λk fr st' ds=>l.take k=m.take k/\fr 0=.iv (.sl t xs)/\fr 1=.iv (.sl t' ys)/\fr 5=.iv (.raw (.int .i64 k))/\st'=st/\ds=[]) ?_ ?_ ?_
 ·simp only[go_sem,zE,reduceCtorEq];simp
 ·rintro k fr J _ E ⟨hn,f0,f1,f5,rfl,rfl⟩;obtain⟨a,ha⟩:=dD E;obtain⟨b,hb⟩:=dD (l:=m) (k:=k) (by omega);obtain⟨x,ai,aa⟩:=hx.get ha;obtain⟨y,ah,O⟩:=hy.get hb;have G:=DV gl a b x y aa O J;obtain⟨_,_,_,_,rfl⟩:=IsSq.two aa;obtain⟨_,_,_,_,rfl⟩:=IsSq.two O;simp only[go_sem,zE,zB,zA,reduceCtorEq,f0,f1,f5,hx.len,lt_i E,dB ht,dB ag,iNn,ai,ah,fits];intros;refine G.mono ?_;rintro _ _ ⟨rfl,rfl⟩;cases hq:eqB a b
  ·simp only[go_sem];refine c_ ⟨?_,rfl⟩;rw[yQq.2 λh=>?_];subst h;rw[ha] at hb;cases hb;exact yQq.1 hq rfl
  ·simp only[go_sem,zE,reduceCtorEq,f0,f1,f5,dL E (by omega)];rw[dM ha,dM hb,hn,yZ1.1 hq]
 ·rintro fr J _ ⟨hn,f0,f1,f5,rfl,rfl⟩;rw[lTl,show m.take l.length=m by rw[D,lTl]] at hn;simp only[go_sem,zE,reduceCtorEq,f0,f5,hx.len,dS (nLi _)];intros;exact c_ ⟨by rw[yZ1.2 hn],rfl⟩
set_option maxRecDepth 8000
def GM:∀ {l:List Sn}{xs:List IV},AllR (λp y=>IsSq ⟨p.1,p.2⟩ y) l xs->IsSqs (l.map λp=>⟨p.1,p.2⟩) xs
 | [],xs,h=>by
  have:=h.1;obtain rfl:xs=[]:=ev this;simp[IsSqs]
 | p::l,xs,h=>by
  obtain⟨x,h0,D⟩:=h.2 0 p rfl;cases xs with
  | nil=>cases h0
  | cons y ys =>
   obtain rfl:y=x:=by simpa using h0
   exact⟨y,ys,rfl,D,GM ⟨by have:=h.1;simpa using this,λi a E=>h.2 (i+1) a E⟩⟩
def jv {s:Sq}(h:(s.l.all (λf=>decide (f.size<=1000000))&&s.r.all (λf=>decide (f.size<=1000000)))=true):fY s:=by
 simp only[bAt,eF,dTe] at h;exact h
def Pe (x y z:Operand):la 3 [(0,x),(1,y),(2,z)]=true:=rfl
def Pf (r:List Nat)(x:IV):Prop:=∃t,x=.sl t (dO r)/\okEs t 1
def Pg (S:List (List Nat)):Prop:=S.length<=3/\∀r∈S,r.length<=3/\∀u∈r,u<S.length
section
variable (S:List (List Nat))(hS:Pg S)(tS:Tag)(xS:List IV)(htS:okEs tS 1)(hxS:AllR Pf S xS)(ta tm:Tag)(hta:okEs ta 1)(htm:okEs tm 1)(l:List ByteArray)(hnd:l.Nodup)(hl:l.length<=100)(ms:List Nat)(hml:ms.length=S.length)(hms:∀m∈ms,m<=1000000)
include hS htS hxS hta htm hnd hl hml hms
end
end Go.Proofs.Tryz
namespace Go.Proofs.Tryz
open Go Go.Iv
def Ph {a:Fm}(ha:PF a):∀ {b:Fm},PF b->dbF [] a=dbF [] b->a=b:=by
 have E:∀o,1<=o->o<=7->isQ o=false:=λo h1 h2=>by
  rcases (show o=1\/o=2\/o=3\/o=4\/o=5\/o=6\/o=7 by omega) with rfl|rfl|rfl|rfl|rfl|rfl|rfl<;>rfl
 have h1:=E 1 (by decide) (by decide);have h2:=E 2 (by decide) (by decide);have h3:=E 3 (by decide) (by decide)
 induction ha with
 | atom n =>
  intro b G h;cases G<;>simp_all [dbF,dbFs,dbs]
  all_goals omega
 | fls =>
  intro b G h;cases G<;>simp_all [dbF,dbFs,dbs]
  all_goals omega
 | neg _ ih =>
  intro b G h;cases G with
  | neg D =>
   simp only[dbF,dbFs,h3,bFt,dE,NlF.mk.injEq,jF,and_true,true_and] at h;rw[ih D h]
  | _=>simp_all [dbF,dbFs,dbs]<;>omega
 | @bin o a b h4 h7 _ _ O J =>
  intro c hc h;cases hc with
  | @bin o' a' b' ai ab aa D =>
   have e1:=E o (by omega) h7;have e2:=E o' (by omega) ab;simp only[dbF,dbFs,e1,e2,bFt,dE,NlF.mk.injEq,jF,and_true,true_and] at h;obtain⟨rfl,h5,h6⟩:=h;rw[O aa h5,J D h6]
  | _=>simp_all [dbF,dbFs,dbs]<;>omega
def z8 {s:Sq}(h:en 2 s=true):∀f∈s.r,∀g∈s.r,f=g:=by
 have E:∀f∈s.r,PF f:=λf D=>lr (by decide) (qJ h f (fV _ D));unfold en at h;simp only[bAt] at h;have h1:p_ s.r=true:=by simpa using h.2
 cases G:s.r with
 | nil=>intro f D;cases D
 | cons a l =>
  rw[G] at h1 E;have key:∀f∈a::l,f=a:=λf D=>by
   have:=eF.1 h1 f D;unfold eqF mn at this;simp only[bAt,dTe,yZ1] at this;exact Ph (E f D) (E a (.head _)) this.2.2
  exact λf D g J=>(key f D).trans (key g J).symm
def GN {ca:Nat}{s:Sq}{rule:Nat}{D:Fm}{term:Tm}{name:ByteArray}(h:(fU ca s rule D term name).2=0):en ca s=true:=by
 unfold fU at h;grind
def Pj {ca:Nat}{rule:Nat}{s:Sq}{D:Fm}{term:Tm}{name:ByteArray}{sub:List Tr}(h:fF ca (.mk rule s D term name sub)=0):en ca s=true:=by
 simp only[fF] at h;split at h
 ·grind
 ·rename_i h1;exact GN (Decidable.not_not.1 h1)
def GO:∀ {l:List Tr}{a:Tr},a∈l->a.steps<=eE l
 | b::l,a,h=>by
  simp only[eE];rcases dF.1 h with rfl|h
  ·omega
  ·have:=GO h;omega
def vQd {a b:Fm}:eqF a b=true↔a.op=b.op/\a.right=true/\b.right=true/\dbF [] a=dbF [] b:=by
 unfold eqF mn;simp only[bAt,dTe,yZ1,and_assoc]
def wVv {l:List Fm}{f:Fm}:hasF l f=true↔∃g∈l,eqF f g=true:=by simp[hasF]
def xJe {l m:List Fm}:allF l m=true↔∀f∈l,hasF m f=true:=by simp[allF]
def Pk {ca:Nat}{s:Sq}{rule:Nat}{D:Fm}{term:Tm}{name:ByteArray}{r:Rw}(h1:en ca s=true)(h2:rowS ca rule=some r)(O:(fQ ca rule r D term name).2=0)
  (J:r.left=true->hasF s.l D=true) (G:r.right=true->hasF s.r D=true) (E:r.asks=2->mq s name=false):fU ca s rule D term name=((fQ ca rule r D term name).1,0):=by
 unfold fU;grind
def Pm {ca:Nat}{s:Sq}{rule:Nat}{D:Fm}{term:Tm}{name:ByteArray}(h:(fU ca s rule D term name).2=0) :
  ∃r,en ca s=true/\rowS ca rule=some r/\(fQ ca rule r D term name).2=0/\(r.left=true->hasF s.l D=true)/\(r.right=true->hasF s.r D=true)/\(r.asks=2->mq s name=false) /\
   fU ca s rule D term name=((fQ ca rule r D term name).1,0):=by
 have hv:=GN h;cases hr:rowS ca rule with
 | none=>unfold fU at h;rw[hv,hr] at h;simp at h
 | some r =>
  have key:(fQ ca rule r D term name).2=0/\(r.left&&!hasF s.l D)=false/\(r.right&&!hasF s.r D)=false/\(decide (r.asks=2)&&mq s name)=false:=by
   unfold fU at h;grind
  obtain⟨k1,k2,k3,O⟩:=key;have J:r.left=true->hasF s.l D=true:=λhl=>by rw[hl] at k2;simpa using k2
  have G:r.right=true->hasF s.r D=true:=λhl=>by rw[hl] at k3;simpa using k3
  have E:r.asks=2->mq s name=false:=λhl=>by rw[hl] at O;simpa using O
  exact⟨r,hv,rfl,k1,J,G,E,Pk hv hr k1 J G E⟩
section
variable {ca rule:Nat}{s:Sq}{f:Fm}{u:Tm}{n:ByteArray}{sub:List Tr}(h:(gj ca (.mk rule s f u n sub)).2=0)(h1:s.l.length<64)(h2:s.r.length<64)
include h h1 h2
end
def Pn {ca rule:Nat}{s:Sq}{f:Fm}{u:Tm}{n:ByteArray}{sub:List Tr}(hc:fF ca (.mk rule s f u n sub)=0) :
  (fU ca s rule f u n).2=0/\sub.length=(fU ca s rule f u n).1.length/\gT s (fU ca s rule f u n).1 sub=true:=by
 simp only[fF] at hc;grind
section
variable {ca rule:Nat}{s:Sq}{f:Fm}{u:Tm}{n:ByteArray}{sub:List Tr}(h:(gj ca (.mk rule s f u n sub)).2=0)
include h
end
def vQ5 {ca:Nat}{f:Fm}:fmB ca f=true↔f.ok=true/\f.size<=400/\f.deep<=40/\opsB ca f=true:=by
 unfold fmB Fm.right;grind
def gX {α:Type}{c:Prop} [Decidable c]{a r:α}{x:Option α}(h:(if c then some a else x)=some r):(c/\r=a)\/(¬c/\x=some r):=by
 grind
def Po {ca rule:Nat}{r:Rw}(h:rowS ca rule=some r):(rule=1/\r=⟨true,true,0,0⟩)\/(rule=2/\r=⟨true,false,2,0⟩)\/(rule=3/\r=⟨true,false,3,0⟩)\/(rule=4/\r=⟨false,true,3,0⟩)\/(rule=5/\r=⟨true,false,4,0⟩)\/(rule=6/\r=⟨false,true,4,0⟩) \/
  (rule=7/\r=⟨true,false,5,0⟩)\/(rule=8/\r=⟨false,true,5,0⟩)\/(rule=9/\r=⟨true,false,6,0⟩)\/(rule=10/\r=⟨false,true,6,0⟩)\/(rule=11/\r=⟨true,false,7,0⟩)\/(rule=12/\r=⟨false,true,7,0⟩) \/
  (rule=13/\r=⟨true,false,8,1⟩)\/(rule=14/\r=⟨false,true,8,2⟩)\/(rule=15/\r=⟨true,false,9,2⟩)\/(rule=16/\r=⟨false,true,9,1⟩)\/(rule=17/\r=⟨false,false,0,0⟩)\/(rule=18/\r=⟨false,true,5,0⟩):=by
 unfold rowS rowK at h;rcases gX h with⟨⟨hc,D⟩,E⟩|⟨_,h⟩
 ·subst D;subst E;simp
 rcases gX h with⟨⟨hc,D⟩,E⟩|⟨_,h⟩
 ·subst D;subst E;simp
 rcases gX h with⟨⟨hc,D⟩,E⟩|⟨_,h⟩
 ·subst D;subst E;simp
 rcases gX h with⟨⟨hc,D⟩,E⟩|⟨_,h⟩
 ·subst D;subst E;simp
 rcases gX h with⟨⟨hc,D⟩,E⟩|⟨_,h⟩
 ·subst D;subst E;simp
 rcases gX h with⟨D,E⟩|⟨_,h⟩
 ·subst D;subst E;simp
 rcases gX h with⟨D,E⟩|⟨_,h⟩
 ·subst D;subst E;simp
 rcases gX h with⟨D,E⟩|⟨_,h⟩
 ·subst D;subst E;simp
 rcases gX h with⟨D,E⟩|⟨_,h⟩
 ·subst D;subst E;simp
 rcases gX h with⟨D,E⟩|⟨_,h⟩
 ·subst D;subst E;simp
 rcases gX h with⟨D,E⟩|⟨_,h⟩
 ·subst D;subst E;simp
 rcases gX h with⟨D,E⟩|⟨_,h⟩
 ·subst D;subst E;simp
 rcases gX h with⟨D,E⟩|⟨_,h⟩
 ·subst D;subst E;simp
 rcases gX h with⟨D,E⟩|⟨_,h⟩
 ·subst D;subst E;simp
 grind
def Pp {ca rule:Nat}{r:Rw}(h:rowS ca rule=some r):(rule=18->ca=2)/\(13<=rule->rule<=16->ca=3):=by
 unfold rowS rowK at h;rcases gX h with⟨⟨hc,D⟩,E⟩|⟨_,h⟩
 ·omega
 rcases gX h with⟨⟨hc,D⟩,E⟩|⟨_,h⟩
 ·omega
 rcases gX h with⟨⟨hc,D⟩,E⟩|⟨_,h⟩
 ·omega
 rcases gX h with⟨⟨hc,D⟩,E⟩|⟨_,h⟩
 ·omega
 rcases gX h with⟨⟨hc,D⟩,E⟩|⟨_,h⟩
 ·omega
 rcases gX h with⟨D,E⟩|⟨_,h⟩
 ·omega
 rcases gX h with⟨D,E⟩|⟨_,h⟩
 ·omega
 rcases gX h with⟨D,E⟩|⟨_,h⟩
 ·omega
 rcases gX h with⟨D,E⟩|⟨_,h⟩
 ·omega
 rcases gX h with⟨D,E⟩|⟨_,h⟩
 ·omega
 grind
section
variable (nm:ByteArray)(g:Fm)
end
section
variable {nm:ByteArray}{g:Fm}{ca:Nat}
def Pq {ca:Nat}(hc:ca≠3){rule:Nat}{r:Rw}(h:rowS ca rule=some r):r.asks=0:=by
 have D:=Pp h;rcases Po h with⟨rfl,rfl⟩|⟨rfl,rfl⟩|⟨rfl,rfl⟩|⟨rfl,rfl⟩|⟨rfl,rfl⟩|⟨rfl,rfl⟩|⟨rfl,rfl⟩|⟨rfl,rfl⟩|⟨rfl,rfl⟩|⟨rfl,rfl⟩|⟨rfl,rfl⟩|⟨rfl,rfl⟩|⟨rfl,rfl⟩|⟨rfl,rfl⟩|⟨rfl,rfl⟩|⟨rfl,rfl⟩|⟨rfl,rfl⟩|⟨rfl,rfl⟩
 all_goals first
  | rfl
  | exact absurd (D.2 (by decide) (by decide)) hc
end
section
variable {nm:ByteArray}{g:Fm}{ca:Nat}
end
def GP (s:Sq):∀(ad:List Sq) (ts:List Tr),gT s ad ts=true->∀(i:Nat) (m:Sq) (t:Tr),ad[i]?=some m->ts[i]?=some t->m_ t.sq (s.plus m)=true
 | [],_,_,i,m,t,h,_=>by simp at h
 | _::_,[],_,i,m,t,_,h=>by simp at h
 | a::ad,b::ts,h,i,m,t,D,ht=>by
  simp only[gT,bAt] at h;cases i with
  | zero =>
   grind
  | succ i=>exact GP s ad ts h.2 i m t (by simpa using D) (by simpa using ht)
