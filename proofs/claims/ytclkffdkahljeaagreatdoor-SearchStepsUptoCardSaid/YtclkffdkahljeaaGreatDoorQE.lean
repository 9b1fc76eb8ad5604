/- The memory of settling, and what changes -/
import Derived.Test.YtclkffdkahljeaaGreatDoorQD
set_option linter.all false
open Nat renaming reduceEqDiff → zE,reduceBEq → zB,reduceAdd → zA,reduceMul → zM,reduceLeDiff → zL
namespace Go.Proofs.Tryz
open Go Go.Iv
def IsUs (u:Us)(y:IV):Prop:=y=.agg [.raw (.int .i32 (u.1:Int)),.raw (.int .i32 (u.2:Int))]
structure Usr (gU:Nat)(S0 st:ISt)(us:List (List Us)):Prop where
 ex:∃cells,st gU=some (.box cells)/\cells.length=us.length/\(∀(p:Nat) (l:List Us),us[p]?=some l->∃t ys,cells[p]?=some (.sl t ys)/\AllR IsUs l ys/\own st t l.length 2 S0) /\
  ∀(p q:Nat) (t t':Tag) (ys ys':List IV) (g:Nat),cells[p]?=some (.sl t ys)->cells[q]?=some (.sl t' ys')->t.cap=.app g->t'.cap=.app g->p=q
theorem zZ1 {st:ISt}{tg:Tag}{n s g:Nat}{S0:ISt}(h:own st tg n s S0)(hc:tg.cap=.app g):st g=some (.front n s):=by
 rcases h with⟨_,h⟩|rfl|⟨g',rfl,h,_⟩
 ·rw[h] at hc;cases hc
 ·cases hc
 ·cases hc;exact h
theorem nmem {x g:Nat}{l:List Nat}(h:x ∉ l)(hg:g∈l):x≠g:=λe=>h (by rw[e];exact hg)
structure PS (gU gW gH rb n:Nat)(pre:List IV)(S0:ISt)(gs:List Nat)(st:ISt)(hs:List Nat)(ws:List (List Nat))(us:List (List Us)):Prop where
 mem:Mem gW gH rb n pre gs st hs ws
 usr:Usr gU S0 st us
 base:subSt S0 st
 off:S0 gU=none/\S0 gW=none/\S0 gH=none/\S0 rb=none/\∀g∈gs,S0 g=none
 gu:gU ∉ gW::gH::rb::gs
 ul:us.length=n
section
variable {gU gW gH rb n:Nat}{pre:List IV}{S0:ISt}{gs:List Nat}{st:ISt}{hs:List Nat}{ws:List (List Nat)}{us:List (List Us)}
theorem Usr.keep {st':ISt}(h:Usr gU S0 st us)(h1:st' gU=st gU)(h2:∀g k,st g=some (.front k 2)->st' g=st g):Usr gU S0 st' us:=by
 obtain⟨cells,c1,c2,c3,c4⟩:=h.ex;refine⟨cells,h1.trans c1,c2,λp l hp=>?_,c4⟩;obtain⟨t,ys,k1,k2,k3⟩:=c3 p l hp;exact⟨t,ys,k1,k2,k3.mono λg hg _=>(h2 g _ hg).trans hg⟩
theorem Mem.keep {st':ISt}(h:Mem gW gH rb n pre gs st hs ws)(hk:∀b cs,st b=some (.box cs)->b∈gW::gH::rb::gs->st' b=some (.box cs)):Mem gW gH rb n pre gs st' hs ws :=
 ⟨hk _ _ h.rbx (by simp),hk _ _ h.hts (by simp),h.hl,hk _ _ h.wts (by simp),h.gll,λk g w hg hw=>hk _ _ (h.row k g w hg hw) (by simp[lMg hg]),h.nd,h.small⟩
theorem Mem.ne (h:Mem gW gH rb n pre gs st hs ws):gW≠gH/\gW≠rb/\gW ∉ gs/\gH≠rb/\gH ∉ gs/\rb ∉ gs/\gs.Nodup:=by
 have:=h.nd;simp only[List.nodup_cons,List.mem_cons,not_or] at this;obtain⟨⟨a,b,c⟩,⟨d,e⟩,f,g⟩:=this;exact⟨a,b,c,d,e,f,g⟩
theorem PS.une (h:PS gU gW gH rb n pre S0 gs st hs ws us):gU≠gW/\gU≠gH/\gU≠rb/\gU ∉ gs:=by
 have:=h.gu;simp only[List.mem_cons,not_or] at this;exact this
theorem yW2 {st:ISt}{b:Nat}{cs:List IV}{o:Option IObj}(hb:st b=some (.box cs)){g k s:Nat}(hg:st g=some (.front k s)):(st.put b o) g=st g:=by
 rw[yQ5];rintro rfl;rw[hb] at hg;cases hg
theorem PS.setH (h:PS gU gW gH rb n pre S0 gs st hs ws us)(i v:Nat):PS gU gW gH rb n pre S0 gs (st.put gH (some (.box (yQk (hs.set i v))))) (hs.set i v) ws us:=by
 obtain⟨a,b,c,d,e,f,g⟩:=h.mem.ne;obtain⟨u1,u2,u3,u4⟩:=h.une;refine⟨⟨by rw[yQ5 d.symm];exact h.mem.rbx,ISt.put_same ..,by rw[List.length_set];exact h.mem.hl,by rw[yQ5 a];exact h.mem.wts,h.mem.gll,λk g' w hg hw=>?_,h.mem.nd,h.mem.small⟩,
  h.usr.keep (yQ5 u2) λg' k hg=>yW2 h.mem.hts hg,yQb h.base h.off.2.2.1,h.off,h.gu,h.ul⟩
 rw[yQ5 (nmem e (lMg hg)).symm];exact h.mem.row k g' w hg hw
theorem PS.row (h:PS gU gW gH rb n pre S0 gs st hs ws us){g:Nat}(hg:st g=none){w:List Nat}(hw:∀x∈w,x<256)(hl:gs.length<n) :
  PS gU gW gH rb n pre S0 (gs++[g]) ((st.put g (some (.box (u8J w)))).put gW (some (.box ((rwsI gs ws++List.replicate (n-gs.length) (IV.sl ⟨true,.nil,0⟩ [])).set gs.length (slG g w.length))))) hs (ws++[w]) us:=by
 obtain⟨a,b,c,d,e,f,nd⟩:=h.mem.ne;obtain⟨u1,u2,u3,u4⟩:=h.une;have hx:∀b cs,st b=some (.box cs)->g≠b:=λb cs hb e=>by rw[e] at hg;rw[hg] at hb;cases hb
 have gW':=hx _ _ h.mem.wts;have gH':=hx _ _ h.mem.hts;have gR':=hx _ _ h.mem.rbx;obtain⟨cells,uc,_⟩:=h.usr.ex;have gU':=hx _ _ uc;have gs':g ∉ gs:=λhm=>by
  obtain⟨k,hk,rfl⟩:=List.mem_iff_getElem.1 hm;obtain⟨w',hw'⟩:=yQ1 (l:=ws) (k:=k) (by rw[<- h.mem.gll];exact hk);exact hx _ _ (h.mem.row k _ w' (List.getElem?_eq_getElem hk) hw') rfl
 have hrl:(rwsI gs ws).length=gs.length:=by unfold rwsI;rw[List.length_zipWith,h.mem.gll,Nat.min_self]
 refine⟨⟨by rw[yQ5 b.symm,yQ5 gR'.symm];exact h.mem.rbx,by rw[yQ5 a.symm,yQ5 gH'.symm];exact h.mem.hts,h.mem.hl,?_,by simp[h.mem.gll],λk g' w' hg' hw'=>?_,?_,λw' hw'=>?_⟩,
  h.usr.keep (by rw[yQ5 u1,yQ5 gU'.symm]) (λg' k hg'=>by rw[yQ5 (λe=>by rw[e,h.mem.wts] at hg';cases hg'),yQ5 (λe=>by rw[e,hg] at hg';cases hg')]),yQb (yQb h.base (yXi h.base hg)) h.off.2.1,?_,?_,h.ul⟩
 ·rw[ISt.put_same];congr 2;have hr:rwsI (gs++[g]) (ws++[w])=rwsI gs ws++[slG g w.length]:=by
   unfold rwsI;rw[List.zipWith_append h.mem.gll];rfl
  rw[hr,lLa,List.length_singleton,List.set_append_right _ _ (by omega),hrl,Nat.sub_self];obtain⟨m,hm⟩:∃m,n-gs.length=m+1:=⟨n-gs.length-1,by omega⟩
  rw[hm,show n-(gs.length+1)=m by omega,List.replicate_succ,List.set_cons_zero,List.append_assoc];rfl
 ·rcases Nat.lt_or_ge k gs.length with hk|hk
  ·rw[List.getElem?_append_left hk] at hg';rw[List.getElem?_append_left (by rw[<- h.mem.gll];exact hk)] at hw';have hm:=lMg hg';rw[yQ5 (nmem c hm).symm,yQ5 (nmem gs' hm).symm];exact h.mem.row k g' w' hg' hw'
  ·have hk0:k=gs.length:=by
    have:=(lGs hg').1;rw[lLa,List.length_singleton] at this;omega
   subst hk0;rw[List.getElem?_append_right (Nat.le_refl _),Nat.sub_self] at hg';rw[h.mem.gll,List.getElem?_append_right (Nat.le_refl _),Nat.sub_self] at hw';cases hg';cases hw';rw[yQ5 gW',ISt.put_same]
 ·simp only[List.nodup_cons,List.mem_cons,List.mem_append,List.not_mem_nil,or_false,not_or];exact⟨⟨a,b,c,gW'.symm⟩,⟨d,e,gH'.symm⟩,⟨f,gR'.symm⟩,List.nodup_append.2 ⟨nd,by simp,λx hxm y hy=>by rw[List.mem_singleton.1 hy];rintro rfl;exact gs' hxm⟩⟩
 ·rcases List.mem_append.1 hw' with hm|hm
  ·exact h.mem.small w' hm
  ·rw[List.mem_singleton.1 hm];exact hw
 ·refine⟨h.off.1,h.off.2.1,h.off.2.2.1,h.off.2.2.2.1,λg' hg'=>?_⟩;rcases List.mem_append.1 hg' with hm|hm
  ·exact h.off.2.2.2.2 g' hm
  ·rw[List.mem_singleton.1 hm];exact yXi h.base hg
 ·simp only[List.mem_cons,List.mem_append,List.not_mem_nil,or_false,not_or];exact⟨u1,u2,u3,u4,gU'.symm⟩
theorem PS.setW (h:PS gU gW gH rb n pre S0 gs st hs ws us){i g:Nat}{w:List Nat}(hg:gs[i]?=some g)(hw:ws[i]?=some w)(j:Nat){v:Nat}(hv:v<256) :
  PS gU gW gH rb n pre S0 gs (st.put g (some (.box (u8J (w.set j v))))) hs (ws.set i (w.set j v)) us:=by
 obtain⟨a,b,c,d,e,f,nd⟩:=h.mem.ne;obtain⟨u1,u2,u3,u4⟩:=h.une;have hm:=lMg hg;have hrow:rwsI gs (ws.set i (w.set j v))=rwsI gs ws:=by
  unfold rwsI;refine List.ext_getElem? λk=>?_;rw[List.getElem?_zipWith,List.getElem?_zipWith,List.getElem?_set];by_cases e:i=k
  ·subst e;rw[if_pos rfl,if_pos (lGs hw).1,hw,hg];simp
  ·rw[if_neg e]
 refine⟨⟨by rw[yQ5 (nmem f hm)];exact h.mem.rbx,by rw[yQ5 (nmem e hm)];exact h.mem.hts,h.mem.hl,by rw[hrow,yQ5 (nmem c hm)];exact h.mem.wts,by rw[List.length_set];exact h.mem.gll,λk g' w' hg' hw'=>?_,h.mem.nd,λw' hw' x hx=>?_⟩,
  h.usr.keep (yQ5 (nmem u4 hm)) (λg' k hg'=>yW2 (h.mem.row i g w hg hw) hg'),yQb h.base (h.off.2.2.2.2 g hm),h.off,h.gu,h.ul⟩
 ·rw[List.getElem?_set] at hw';split at hw'
  ·rename_i e;subst e;rw[if_pos (lGs hw).1] at hw';cases hw';rw[hg] at hg';cases hg';exact ISt.put_same ..
  ·rename_i e;have hgg:g'≠g:=λeg=>by
    subst eg;obtain⟨h1,h2⟩:=lGs hg;obtain⟨h3,h4⟩:=lGs hg';exact e ((List.getElem_inj nd).1 (h2.trans h4.symm))
   rw[yQ5 hgg];exact h.mem.row k g' w' hg' hw'
 ·rcases List.mem_or_eq_of_mem_set hw' with hw'|rfl
  ·exact h.mem.small w' hw' x hx
  ·rcases List.mem_or_eq_of_mem_set hx with hx|rfl
   ·exact h.mem.small w (lMg hw) x hx
   ·exact hv
theorem PS.addU (h:PS gU gW gH rb n pre S0 gs st hs ws us){p:Nat}{l:List Us}{u:Us}{y:IV}(hy:IsUs u y)(hp:us[p]?=some l){cells ys:List IV}{t tg':Tag}{st':ISt}(hc:st gU=some (.box cells))(ht:cells[p]?=some (.sl t ys))(hown:own st' tg' (l.length+1) 2 S0)(hsub:subSt S0 st')
  (hfar:∀b o,st b=some o->t.cap≠.app b->st' b=some o) (hnew:∀g,tg'.cap=.app g->t.cap=.app g\/st g=none) :
  PS gU gW gH rb n pre S0 gs (st'.put gU (some (.box (cells.set p (.sl tg' (ys++[y])))))) hs ws (us.set p (l++[u])):=by
 obtain⟨cells',c1,c2,c3,c4⟩:=h.usr.ex;rw[hc] at c1;cases c1;obtain⟨t0,ys0,k1,k2,k3⟩:=c3 p l hp;rw[ht] at k1;cases k1;have hbox:∀b cs,st b=some (.box cs)->st' b=some (.box cs):=λb cs hb=>hfar b _ hb λe=>by
  rw[zZ1 k3 e] at hb;cases hb
 have hpl:p<cells.length:=(lGs ht).1;have hu':=hbox _ _ hc;refine⟨h.mem.keep λb cs hb hm=>by rw[yQ5 (nmem h.gu hm).symm];exact hbox b cs hb,⟨_,ISt.put_same ..,by rw[List.length_set,List.length_set];exact c2,λq l' hq=>?_,λq q' t1 t2 y1 y2 g h1 h2 h3 h4=>?_⟩,yQb hsub h.off.1,h.off,h.gu,by rw[List.length_set];exact h.ul⟩
 ·have far2:∀ {t2:Tag} {m:Nat},own st' t2 m 2 S0->own (st'.put gU (some (.box (cells.set p (.sl tg' (ys++[y])))))) t2 m 2 S0:=λho=>ho.mono λg hg _=>by
   rw[yQ5 λe=>by rw[e,hu'] at hg;cases hg];exact hg
  rw[List.getElem?_set] at hq ⊢;split at hq
  ·rename_i e;subst e;rw[if_pos (lGs hp).1] at hq;cases hq;exact⟨tg',_,by rw[if_pos hpl,if_pos rfl],k2.snoc hy,by rw[lLa];exact far2 hown⟩
  ·rename_i e;rw[if_neg e];obtain⟨t2,y2,g1,g2,g3⟩:=c3 q l' hq;refine⟨t2,y2,g1,g2,far2 ?_⟩;rcases g3 with hz|rfl|⟨g',rfl,hg',hg0⟩
   ·exact .inl hz
   ·exact .inr (.inl rfl)
   ·exact .inr (.inr ⟨g',rfl,hfar g' _ hg' λe2=>e (c4 p q t _ ys _ g' ht g1 e2 rfl),hg0⟩)
 ·have key:∀(q:Nat) (t2:Tag) (y2:List IV) (g:Nat),q≠p->cells[q]?=some (.sl t2 y2)->t2.cap=.app g->tg'.cap=.app g->False:=λq t2 y2 g hqp hq h2c h1c=>by
   rcases hnew g h1c with h0|h0
   ·exact hqp (c4 q p t2 t y2 ys g hq ht h2c h0)
   ·obtain⟨lq,hlq⟩:=yQ1 (l:=us) (k:=q) (by rw[<- c2];exact (lGs hq).1);obtain⟨t3,y3,g1,_,g3⟩:=c3 q lq hlq;rw[hq] at g1;cases g1;rw[zZ1 g3 h2c] at h0;cases h0
  rw[List.getElem?_set] at h1 h2;by_cases e1:p=q
  ·by_cases e2:p=q'
   ·exact e1.symm.trans e2
   ·subst e1;rw[if_pos rfl,if_pos hpl] at h1;rw[if_neg e2] at h2;cases h1;exact (key q' t2 y2 g (λe=>e2 e.symm) h2 h4 h3).elim
  ·rw[if_neg e1] at h1;by_cases e2:p=q'
   ·subst e2;rw[if_pos rfl,if_pos hpl] at h2;cases h2;exact (key q t1 y1 g (λe=>e1 e.symm) h1 h3 h4).elim
   ·rw[if_neg e2] at h2;exact c4 q q' t1 t2 y1 y2 g h1 h2 h3 h4
theorem PS.far (h:PS gU gW gH rb n pre S0 gs st hs ws us){tg:Tag}{m:Nat}{st':ISt}(ho:own st tg m 1 S0)(hsub:subSt S0 st')(hfar:∀b o,st b=some o->tg.cap≠.app b->st' b=some o):PS gU gW gH rb n pre S0 gs st' hs ws us:=by
 have hbox:∀b cs,st b=some (.box cs)->st' b=some (.box cs):=λb cs hb=>hfar b _ hb λe=>by
  rw[zZ1 ho e] at hb;cases hb
 obtain⟨cells,c1,_⟩:=h.usr.ex;exact⟨h.mem.keep λb cs hb _=>hbox b cs hb,h.usr.keep ((hbox _ _ c1).trans c1.symm) λg k hg=>(hfar g _ hg λe=>by rw[zZ1 ho e] at hg;cases hg).trans hg.symm,hsub,h.off,h.gu,h.ul⟩
end
end Go.Proofs.Tryz
namespace Go.Proofs.Tryz
open Go Go.Iv
set_option maxRecDepth 4000
variable (gl:Nat->Option IV)
theorem xWo {ws:List (List Nat)}{u:Us}{w:List Nat}{x:Nat}(hw:ws[u.1]?=some w)(hx:w[u.2]?=some x):decW ws u=ws.set u.1 (w.set u.2 ((x+255)%256)):=by
 unfold decW;have hm:∀ {α:Type} (l:List α) (i:Nat) (f:α->α) (a:α),l[i]?=some a->l.modify i f=l.set i (f a):=λl i f a h=>by
  refine List.ext_getElem? λk=>?_;rw[List.getElem?_modify,List.getElem?_set];by_cases e:i=k
  ·subst e;simp only[if_true,if_pos (lGs h).1,h];rfl
  ·simp[e]
 rw[hm _ _ _ _ hw,hm _ _ _ _ hx]
theorem vJi {x:Nat}(h:x<256):IntKind.u8.wrap ((x:Int)-1)=(((x+255)%256:Nat):Int):=by
 have:∀y:Fin 256,IntKind.u8.wrap ((y.val:Int)-1)=(((y.val+255)%256:Nat):Int):=by decide
 exact this ⟨x,h⟩
theorem wWp (gU gW gH rb n:Nat)(p1 p2 p3 p4:IV)(S0:ISt)(gs hs:List Nat)(ws:List (List Nat))(us:List (List Us))(u:Us)(st:ISt)(hP:PS gU gW gH rb n [p1,p2,p3,p4] S0 gs st hs ws us)(w:List Nat)(hw:ws[u.1]?=some w)(x:Nat)(hx:w[u.2]?=some x)(h:Nat)(hh:hs[u.1]?=some h) :
  ICall prog gl 81 [.agg [.raw (.int .i32 (u.1:Int)),.raw (.int .i32 (u.2:Int))],.cptr (slG gW n),.cptr (ptr rb)] st
   (λr st'=>r=.raw (.bool (decide ((x+255)%256=0/\h=0)))/\PS gU gW gH rb n [p1,p2,p3,p4] S0 gs st' hs (decW ws u) us/\∀g k s,st g=some (.front k s)->st' g=some (.front k s)):=by
 have hM:=hP.mem;obtain⟨g,hg⟩:=yQ1 (l:=gs) (k:=u.1) (by rw[hM.gll];exact (lGs hw).1);have hrow:=hM.row _ _ _ hg hw;have hx2:=(lGs hx).1;have hx1:x<256:=hM.small w (lMg hw) x (lMg hx);have hn:u.1<n:=by rw[<- hM.hl];exact (lGs hh).1
 have hgg:g∈gs:=lMg hg;obtain⟨d1,d2,d3,d4,d5,d6,d7⟩:=hM.ne;have eW:gW≠g:=λe=>d3 (e▸hgg);have eH:gH≠g:=λe=>d5 (e▸hgg);have eR:rb≠g:=λe=>d6 (e▸hgg);have hwc:(rwsI gs ws++List.replicate (n-gs.length) (IV.sl ⟨true,.nil,0⟩ []))[u.1]?=some (slG g w.length):=by
  have:=zYq hg hw;rw[List.getElem?_append_left (lGs this).1];exact this
 refine ICall.intro (c:=cf prog gl [9,13,20,24,30,34] []) func81 rfl (by show _<=37;simp) (by kernel_rfl) ?_;simp only[go_sem,zE,fits,yV9,IV.one,Nat.mul_one,Nat.zero_add,iNn,hn,hM.wts,hwc,hrow,hx2,xZy hx,vJi hx1];have hset:List.take u.2 (u8J w)++[.raw (.int .u8 (((x+255)%256:Nat):Int))]++List.drop (u.2+1) (u8J w)=u8J (w.set u.2 ((x+255)%256)):=by
  rw[<- xUq,<- yKt (by rw[zYc];exact hx2)];rfl
 rw[if_pos (by rw[zYc];omega),hset];have hP':=hP.setW hg hw u.2 (v:=(x+255)%256) (Nat.mod_lt _ (by decide));rw[<- xWo hw hx] at hP';have hw':(decW ws u)[u.1]?=some (w.set u.2 ((x+255)%256)):=by rw[xWo hw hx,List.getElem?_set,if_pos rfl,if_pos (lGs hw).1]
 have hx':(w.set u.2 ((x+255)%256))[u.2]?=some ((x+255)%256):=by rw[List.getElem?_set,if_pos rfl,if_pos hx2]
 have hfr:∀g' k s,st g'=some (.front k s)->(st.put g (some (.box (u8J (w.set u.2 ((x+255)%256)))))) g'=some (.front k s):=λg' k s hg'=>(yW2 hrow hg').trans hg';generalize st.put g (some (.box (u8J (w.set u.2 ((x+255)%256)))))=st2 at hP' hfr ⊢;generalize w.set u.2 ((x+255)%256)=w2 at hw' hx';generalize (x+255)%256=v at hx' ⊢;have hM':=hP'.mem;have hrow':=hM'.row _ _ _ hg hw';have hx2':=(lGs hx').1;have hwc':(rwsI gs (decW ws u)++List.replicate (n-gs.length) (IV.sl ⟨true,.nil,0⟩ []))[u.1]?=some (slG g w2.length):=by
  have:=zYq hg hw';rw[List.getElem?_append_left (lGs this).1];exact this
 have hrb':=hM'.rbx;simp only[List.cons_append,List.nil_append] at hrb';by_cases hv:v=0
 ·subst hv;simp only[go_sem,zE,zA,fits,yV9,IV.one,Nat.mul_one,Nat.zero_add,iNn,hn,hM'.wts,hwc',hrow',hx2',xZy hx',hrb',hM'.hts,yZ8 hh,show decide (((0:Nat):Int)=0)=true from rfl];exact yQ0 ⟨by rw[show decide ((h:Int)=0)=decide (h=0) by rw[decide_eq_decide];omega],hP',hfr⟩
 ·have hv':decide ((v:Int)=0)=false:=dEf (by omega);simp only[go_sem,zE,Nat.zero_add,hM'.wts,hwc',hrow',hx2',xZy hx',hv'];exact yQ0 ⟨by rw[show decide (v=0/\h=0)=false from dEf λe=>hv e.1],hP',hfr⟩
theorem yUu {S:ISt}{b:Nat}{x y:Option IObj}(h:S b=none):((S.put b x).put b y).put b none=S:=by
 funext c;simp only[ISt.put_apply];split
 ·rename_i e;rw[e,h]
 ·rfl
theorem PS.start {gU gW gH rb n:Nat}{p1 p2 p3 p4:IV}{S0 st:ISt}(hgH:st gH=none)(eHR:rb≠gH)(hrb:S0 rb=none)(eUR:rb≠gU)(eUH:gU≠gH)(hgU:st gU=none)(eWU:gW≠gU)(eWR:rb≠gW)(eWH:gW≠gH)(hgW:st gW=none)(hsub:subSt S0 st) :
  PS gU gW gH rb n [p1,p2,p3,p4] S0 [] ((((st.put gH (some (.box (List.replicate n (.raw (.int .i64 0)))))).put rb (some (.box [p1,p2,p3,p4,slG gH n]))).put gU (some (.box (List.replicate n (.sl ⟨true,.nil,0⟩ []))))).put gW (some (.box (List.replicate n (.sl ⟨true,.nil,0⟩ [])))))
   (List.replicate n 0) [] (List.replicate n []):=by
 have hH0:=yXi hsub hgH;have hU0:=yXi hsub hgU;have hW0:=yXi hsub hgW;refine⟨⟨by rw[yQ5 eWR,yQ5 eUR,ISt.put_same];rfl,by rw[yQ5 eWH.symm,yQ5 eUH.symm,yQ5 eHR.symm,ISt.put_same];simp[yQk],List.length_replicate,by rw[ISt.put_same];simp[rwsI],rfl,λk g w h=>by simp at h,?_,λw h=>by cases h⟩,
  ⟨_,by rw[yQ5 eWU.symm,ISt.put_same],by simp,λp l hp=>?_,λp q t t' ys ys' g h1 _ h3=>?_⟩,yQb (yQb (yQb (yQb hsub hH0) hrb) hU0) hW0,⟨hU0,hW0,hH0,hrb,λg h=>by cases h⟩,?_,List.length_replicate⟩
 ·simp only[List.nodup_cons,List.mem_cons,List.not_mem_nil,or_false,not_or,nFt,List.nodup_nil,and_true];exact⟨⟨eWH,eWR.symm⟩,eHR.symm⟩
 ·rw[List.getElem?_replicate] at hp ⊢;split at hp
  ·rename_i hlt;cases hp;rw[if_pos hlt];exact⟨_,_,rfl,AllR.nil,own.nil ..⟩
  ·cases hp
 ·rw[List.getElem?_replicate] at h1;split at h1
  ·cases h1;cases h3
  ·cases h1
 ·simp only[List.mem_cons,List.not_mem_nil,or_false,not_or];exact⟨eWU.symm,eUH,eUR.symm⟩
def HtOk (cl:Nat->Prop)(i:Nat)(hs:List Nat):Prop:=∀(k x:Nat),hs[k]?=some x->(k<i->(x=1/\cl k)\/(x=0/\¬ cl k))/\(i<=k->x=0)
theorem xGm (cl:Nat->Prop)(n:Nat):HtOk cl 0 (List.replicate n 0):=λk x hk=>by
 rw[List.getElem?_replicate] at hk;split at hk
 ·cases hk;exact⟨λh=>absurd h (Nat.not_lt_zero _),λ_=>rfl⟩
 ·cases hk
def NwOk (hs now:List Nat):Prop:=(∀k,k∈now↔hs[k]?=some 1)/\now.Nodup
theorem HtOk.one {cl:Nat->Prop}{i:Nat}{hs:List Nat}(h:HtOk cl i hs)(hc:cl i):HtOk cl (i+1) (hs.set i 1):=λk x hk=>by
 rw[List.getElem?_set] at hk;split at hk
 ·rename_i e;subst e;split at hk
  ·cases hk;exact⟨λ_=>.inl ⟨rfl,hc⟩,λh=>by omega⟩
  ·cases hk
 ·rename_i e;obtain⟨h1,h2⟩:=h k x hk;exact⟨λhlt=>h1 (by omega),λhge=>h2 (by omega)⟩
theorem HtOk.zero {cl:Nat->Prop}{i:Nat}{hs:List Nat}(h:HtOk cl i hs)(hc:¬ cl i):HtOk cl (i+1) hs:=λk x hk=>by
 obtain⟨h1,h2⟩:=h k x hk;refine⟨λhlt=>?_,λhge=>h2 (by omega)⟩;by_cases e:k=i
 ·subst e;exact .inr ⟨h2 (Nat.le_refl _),hc⟩
 ·exact h1 (by omega)
theorem NwOk.add {hs now:List Nat}{i:Nat}(h:NwOk hs now)(hx:hs[i]?=some 0):NwOk (hs.set i 1) (now++[i]):=by
 have hni:i ∉ now:=λhm=>by have:=(h.1 i).1 hm;rw[hx] at this;cases this
 refine⟨λk=>?_,List.nodup_append.2 ⟨h.2,by simp,λa ha b hb=>by rw[List.mem_singleton.1 hb];rintro rfl;exact hni ha⟩⟩;rw[List.mem_append,List.mem_singleton,List.getElem?_set];by_cases e:i=k
 ·subst e;rw[if_pos rfl,if_pos (lGs hx).1];simp
 ·rw[if_neg e,h.1 k];exact⟨λh=>h.resolve_right λh=>e h.symm,.inl⟩
theorem NwOk.len {hs now:List Nat}(h:NwOk hs now):now.length<=hs.length:=by
 have:=yK9 (b:=List.range hs.length) h.2 λx hx=>List.mem_range.2 (lGs ((h.1 x).1 hx)).1
 rwa [List.length_range] at this
theorem wJd {p:Nat}:∀(l:List Us) (E:List (Nat×Us)),(∀u,l.count u<=E.count (p,u))->l.length<=E.length
 | [],_,_=>Nat.zero_le _
 | a::l,E,h=>by
  have ha:=h a;rw[List.count_cons_self] at ha;have hm:(p,a)∈E:=List.count_pos_iff.1 (by omega);have:=wJd (p:=p) l (E.erase (p,a)) λu=>by
   have hu:=h u;rw[List.count_erase];by_cases e:a=u
   ·subst e;rw[List.count_cons_self] at hu;rw[if_pos (by simp)];omega
   ·rw[List.count_cons_of_ne e] at hu;rw[if_neg (by simp[e])];omega
  rw[List.length_erase_of_mem hm] at this;have:=List.length_pos_of_mem hm;rw[List.length_cons];omega
theorem UsOk.len {us:List (List Us)}{E:List (Nat×Us)}(h:UsOk us E){p:Nat}{l:List Us}(hp:us[p]?=some l):l.length<=E.length :=
 wJd (p:=p) l E λu=>by rw[<- h p u];unfold usAt;rw[hp];exact Nat.le_refl _
theorem zGt {α β:Type}{F:α->List β}{c:Nat}:∀ {l:List α},(∀x∈l,(F x).length<=c)->(l.flatMap F).length<=c*l.length
 | [],_=>by simp
 | a::l,h=>by
  have h1:=h a (.head _);have h2:=zGt (l:=l) λx hx=>h x (.tail _ hx);rw[List.flatMap_cons,lLa,List.length_cons,Nat.mul_add,Nat.mul_one];omega
theorem wJ3 {i:Nat}{l:List Lk}(h:∀k∈l,k.2.2.length<=2):(evL i l).length<=2*l.length:=by
 have:=zGt (F:=λkj:Lk×Nat=>evK (i,kj.2) kj.1.2.2) (c:=2) (l:=l.zipIdx) λx hx=>by
  unfold evK;rw[List.length_map];exact h _ (List.fst_mem_of_mem_zipIdx hx)
 rwa [List.length_zipIdx] at this
theorem wJ4 {links:List (List Lk)}(h:∀l∈links,l.length<=16000000/\∀k∈l,k.2.2.length<=2):(evA links).length<=32000000*links.length:=by
 have:=zGt (F:=λli:List Lk×Nat=>evL li.2 li.1) (c:=32000000) (l:=links.zipIdx) λx hx=>by
  obtain⟨h1,h2⟩:=h _ (List.fst_mem_of_mem_zipIdx hx);have:=wJ3 (i:=x.2) h2;omega
 rwa [List.length_zipIdx] at this
def RdS (links:List (List Lk))(hs:List Nat)(S:Ss):Prop:=S.1.count 0+S.2.2.length=hs.count 0/\∀u,lkAt links u≠[]->∃x,atW S.2.1 u=some x
theorem RdS.step {links:List (List Lk)}{hs:List Nat}{S:Ss}(h:RdS links hs S){H:Nat}(hH:0<H)(u:Us):RdS links hs (yJc H S u):=by
 have hw:(yJc H S u).2.1=decW S.2.1 u:=by unfold yJc;split<;>rfl
 refine⟨?_,λv hv=>?_⟩
 ·unfold yJc;split
  ·rename_i hc;obtain⟨h1,h2⟩:=lGs hc.2;have:=List.count_set (a:=H) (b:=0) h1;have hp:0<S.1.count 0:=List.count_pos_iff.2 (by rw[<- h2];exact List.getElem_mem h1);have h3:=h.1;simp only[lLa,List.length_singleton];rw[this,h2,if_pos (by simp),if_neg (by simp;omega)];omega
  ·exact h.1
 ·obtain⟨x,hx⟩:=h.2 v hv;rw[hw,zZo];split
  ·exact⟨_,by rw[hx];rfl⟩
  ·exact⟨x,hx⟩
def rowJ (l:List Lk)(j:Nat):List Nat:=(l.take j).map (λk=>k.2.2.length)++List.replicate (l.length-j) 0
theorem wQo (l:List Lk):rowJ l 0=List.replicate l.length 0:=by simp[rowJ]
theorem wV7 (l:List Lk){j:Nat}(h:j<=l.length):(rowJ l j).length=l.length:=by
 unfold rowJ;rw[lLa,List.length_map,List.length_take,List.length_replicate];omega
theorem wV8 (l:List Lk):rowJ l l.length=l.map λk=>k.2.2.length:=by simp[rowJ]
theorem xV1 {l:List Lk}{j:Nat}{k:Lk}(h:l[j]?=some k):(rowJ l j).set j k.2.2.length=rowJ l (j+1):=by
 have hj:=(lGs h).1;unfold rowJ;rw[yQ7 h,List.map_append];have h1:((l.take j).map λk:Lk=>k.2.2.length).length=j:=by rw[List.length_map,List.length_take];omega
 rw[List.set_append_right _ _ (by omega),h1,Nat.sub_self];obtain⟨m,hm⟩:∃m,l.length-j=m+1:=⟨l.length-j-1,by omega⟩
 rw[hm,show l.length-(j+1)=m by omega,List.replicate_succ,List.set_cons_zero,List.append_assoc];rfl
theorem zYo (ca m:Nat)(W:List Fm)(hS:SpOk ca W)(tw:Tag)(xw:List IV)(htw:okEs tw 4)(hxw:IsFms W xw)(hWs:W.length<=200000)(lines:List Ln)(links:List (List Lk))(hA:LksAll ca W lines links)(hlen:lines.length<=20000)
  (tl tk:Tag) (xl xk:List IV) (mN rb:Nat) (hxl:AllR IsLn lines xl) (hxk:AllR wKe links xk) (htl:okEs tl 2) (htk:okEs tk 1) (S0 st:ISt)
  (hrb:st rb=some (.box [spI ca tw xw m,.sl tl xl,.raw (.map (some mN)),.sl tk xk,.sl ⟨true,.nil,0⟩ []])) (h0:S0 rb=none) (hsub:subSt S0 st) :
  ICall prog gl 44 [ptr rb] st (λr st'=>r=.tup []/\∃gH hs,st' rb=some (.box [spI ca tw xw m,.sl tl xl,.raw (.map (some mN)),.sl tk xk,slG gH lines.length])/\st' gH=some (.box (yQk hs)) /\
   hs.length=lines.length/\(∀i x,hs[i]?=some x->LstG (clL W lines) links i x)/\subSt S0 st'):=by
 have hxll:=hxl.1;have hxkl:=hxk.1;have hll:=hA.len;refine ICall.introF (t:=3) (n:=4) (c:=cf prog gl [25,3,56,60,96,152,3000027,3000035,3000041,3000084] [(8,[0,1,2,4,5,6,8,16,3,7,9,10,11,12,13,14,15,17,18,19])] [1]) func44 rfl (by show _<=165;simp) (by show _<165;simp) (by kernel_rfl) ?_;simp only[go_sem,zE,zA,zL,fits,hrb];refine yQj ⟨by omega,by omega,by omega⟩ λgH=>yQ8 λhgH=>yQj rfl ?_;have eHR:rb≠gH:=λe=>by rw[e,hgH] at hrb;cases hrb
 rw[yQ5 eHR,hrb];simp only[go_sem,zA,zL];intro _;refine yQj ⟨by omega,by omega,by omega⟩ λgU=>yQ8 λhgU=>?_;have eUR:rb≠gU:=λe=>by rw[<- e,ISt.put_same] at hgU;cases hgU
 rw[yQ5 eUR.symm] at hgU;have eUH:gU≠gH:=λe=>by rw[e,ISt.put_same] at hgU;cases hgU
 rw[yQ5 eUH] at hgU;rw[yQ5 eUR];simp only[go_sem,ISt.put_same];intro _;refine yQj ⟨by omega,by omega,by omega⟩ λgW=>yQ8 λhgW=>?_;have eWU:gW≠gU:=λe=>by rw[e,ISt.put_same] at hgW;cases hgW
 rw[yQ5 eWU] at hgW;have eWR:rb≠gW:=λe=>by rw[<- e,ISt.put_same] at hgW;cases hgW
 rw[yQ5 eWR.symm] at hgW;have eWH:gW≠gH:=λe=>by rw[e,ISt.put_same] at hgW;cases hgW
 rw[yQ5 eWH] at hgW;refine λb3=>yQ8 λhb3=>yQj rfl ?_;refine⟨b3,slG gW xl.length,by simp only[go_sem],ISt.put_same ..,?_⟩;rw[yUu hb3,show age (slG gW xl.length)=slG gW xl.length by simp only[age]];rw[hxll];have hP0:=PS.start (n:=lines.length) (p1:=spI ca tw xw m) (p2:=.sl tl xl) (p3:=.raw (.map (some mN))) (p4:=.sl tk xk) hgH eHR h0 eUR eUH hgU eWU eWR eWH hgW hsub;generalize ((((st.put gH (some (.box (List.replicate lines.length (.raw (.int .i64 0)))))).put rb (some (.box [spI ca tw xw m,.sl tl xl,.raw (.map (some mN)),.sl tk xk,slG gH lines.length]))).put gU (some (.box (List.replicate lines.length (.sl ⟨true,.nil,0⟩ []))))).put gW (some (.box (List.replicate lines.length (.sl ⟨true,.nil,0⟩ [])))))=st1 at hP0 ⊢;have hrb1:=hP0.mem.rbx;simp only[List.cons_append,List.nil_append] at hrb1;have hLall:∀l∈links,l.length<=16000000:=λl hlm=>by
  obtain⟨i,hi,rfl⟩:=List.mem_iff_getElem.1 hlm;obtain⟨ln,hln,hs⟩:=hA.done i _ (List.getElem?_eq_getElem hi);rcases hs with⟨_,h0⟩|⟨_,vs,hvs,hlk⟩
  ·rw[h0];exact Nat.zero_le _
  ·have:=zG5 hS hWs (hA.ok ln (lMg hln));rw[hvs,List.length_map] at this;rw[hlk.1];exact this
 simp only[go_sem,zE,fits,hrb1];intro _;refine LoopC.ctr xk.length (λi fr st' ds=>(∃gs hs us tn now,PS gU gW gH rb lines.length [spI ca tw xw m,.sl tl xl,.raw (.map (some mN)),.sl tk xk] S0 gs st' hs (wsOf (links.take i)) us/\UsOk us (evA (links.take i))/\own st' tn now.length 1 S0/\fr 4=.iv (.sl tn (i32I now))/\HtOk (clL W lines) i hs/\NwOk hs now) /\
  fr 1=.iv (.cptr (ptr rb))/\fr 2=.iv (slG gU lines.length)/\fr 3=.iv (.cptr (slG gW lines.length))/\fr 45=.iv (.sl tk xk)/\fr 46=.iv (.raw (.int .i64 xk.length))/\fr 47=.iv (.raw (.int .i64 (i:Int)))/\ds=[]) ?_ ?_ ?_
 ·simp only[go_sem,zE];exact⟨⟨[],_,_,⟨true,.nil,0⟩,[],hP0,UsOk.nil _,own.nil ..,rfl,xGm _ _,⟨λk=>by rw[List.getElem?_replicate];split<;>simp,List.nodup_nil⟩⟩,rfl⟩
 ·rintro i fr st2 _ hlt ⟨⟨gs,hs,us,tn,now,hP,hU,hown,f4,hH,hN⟩,f1,f2,f3,f45,f46,f47,rfl⟩;have hil:i<links.length:=by omega
  obtain⟨l,hl⟩:=yQ1 hil;obtain⟨ln,hln⟩:=yQ1 (show i<lines.length by omega);have hlok:=hA.ok ln (lMg hln);obtain⟨_,hxi,tL,yL,rfl,htL,hyL⟩:=hxk.2 i l hl;obtain⟨z,hzi,hz⟩:=hxl.2 i ln hln;have hax:=λst=>zU3 gl ca m W hS tw xw htw hxw ln hlok z hz st;obtain⟨ta,tb,rfl,ea,eb⟩:=hz;have hrb2:=hP.mem.rbx;simp only[List.cons_append,List.nil_append] at hrb2;simp only[go_sem,zE,zB,zA,f1,f45,f46,f47,lt_i hlt,yQ3 htk,yQ3 htl,iNn,hxi,hzi,hrb2,fits,IV.one];refine (hax _).mono ?_;rintro _ st2 ⟨⟨zf,rfl,hzf⟩,rfl⟩;obtain⟨y1,y2,y3,y4,y5,y6,rfl⟩:=hzf.agg;have hcl:=wJl (W:=W) hlok.1;have hclL:clL W lines i↔(axW W ln).isSome=true:=by
   rw[hcl];exact⟨λ⟨a,ha,hc⟩=>by rw[hln] at ha;cases ha;exact hc,λhc=>⟨ln,hln,hc⟩⟩
  simp only[go_sem,zE,zA,zL];refine zU0 (λfr st' ds=>(∃hs us tn now,PS gU gW gH rb lines.length [spI ca tw xw m,.sl tl xl,.raw (.map (some mN)),.sl tk xk] S0 gs st' hs (wsOf (links.take i)) us/\UsOk us (evA (links.take i))/\own st' tn now.length 1 S0/\fr 4=.iv (.sl tn (i32I now))/\HtOk (clL W lines) (i+1) hs/\NwOk hs now) /\
   fr 1=.iv (.cptr (ptr rb))/\fr 2=.iv (slG gU lines.length)/\fr 3=.iv (.cptr (slG gW lines.length))/\fr 5=.iv (.raw (.int .i64 (i:Int)))/\fr 6=.iv (.sl tL yL)/\fr 45=.iv (.sl tk xk)/\fr 46=.iv (.raw (.int .i64 xk.length))/\fr 47=.iv (.raw (.int .i64 (i:Int)))/\ds=[]) ?_ (λhs1=>?_) (λhs1=>?_)
  ·rintro fr st3 _ ⟨⟨hs,us,tn,now,hP,hU,hown,f4,hH,hN⟩,f1,f2,f3,f5,f6,f45,f46,f47,rfl⟩;have hyl:=hyL.1;have hLl:=hLall l (lMg hl);have hiL:i<lines.length:=by omega
   have hgl:gs.length=i:=by rw[hP.mem.gll];unfold wsOf;rw[List.length_map,List.length_take];omega
   simp only[go_sem,zE,zA,f3,f5,f6,fits,IV.one,Nat.mul_one,iNn,hiL];refine yQj (by omega) λg=>yQ8 λhg=>?_;have hgW2:gW≠g:=λe=>by rw[<- e,hP.mem.wts] at hg;cases hg
   have hPr:=hP.row hg (w:=List.replicate l.length 0) (λx hx=>by rw[List.eq_of_mem_replicate hx];decide) (by omega);have hwt:=hP.mem.wts;rw[hgl] at hPr hwt;rw[yQ5 hgW2,hwt];have hrl:(rwsI gs (wsOf (links.take i))++List.replicate (lines.length-i) (IV.sl ⟨true,.nil,0⟩ [])).length=lines.length:=by
    unfold rwsI;rw[lLa,List.length_zipWith,List.length_replicate,<- hP.mem.gll,Nat.min_self];omega
   have hset:∀y:IV,List.take i (rwsI gs (wsOf (links.take i))++List.replicate (lines.length-i) (IV.sl ⟨true,.nil,0⟩ []))++[y]++List.drop (i+1) (rwsI gs (wsOf (links.take i))++List.replicate (lines.length-i) (IV.sl ⟨true,.nil,0⟩ [])) =
     (rwsI gs (wsOf (links.take i))++List.replicate (lines.length-i) (IV.sl ⟨true,.nil,0⟩ [])).set i y:=λy=>by
    rw[<- yKt (by rw[hrl];exact hiL)];rfl
   have hPr2:=hPr;rw[List.length_replicate,<- hyl] at hPr;simp only[u8J,List.map_replicate] at hPr;simp only[go_sem,hrl,hset];rw[if_pos (show i+1<=lines.length from hiL)];intro _;rw[show List.replicate yL.length 0=rowJ l 0 by rw[wQo,hyl]] at hPr;have hown2:own ((st3.put g (some (.box (List.replicate yL.length (.raw (.int .u8 ((0:Nat):Int))))))).put gW (some (.box ((rwsI gs (wsOf (links.take i))++List.replicate (lines.length-i) (IV.sl ⟨true,.nil,0⟩ [])).set i (slG g yL.length))))) tn now.length 1 S0:=hown.mono λg' hg' _=>by
    rw[yQ5 (λe=>by rw[e,hP.mem.wts] at hg';cases hg'),yQ5 (λe=>by rw[e,hg] at hg';cases hg')];exact hg'
   refine (?_:∀st4,PS gU gW gH rb lines.length _ S0 (gs++[g]) st4 hs (wsOf (links.take i)++[rowJ l 0]) us->own st4 tn now.length 1 S0->LoopC _ _ _ _ st4 _) _ hPr hown2;intro st4 hPr hown2;clear hown hP hPr2;refine LoopC.ctr yL.length (λj fr st' ds=>(∃us,PS gU gW gH rb lines.length [spI ca tw xw m,.sl tl xl,.raw (.map (some mN)),.sl tk xk] S0 (gs++[g]) st' hs (wsOf (links.take i)++[rowJ l j]) us/\UsOk us (evA (links.take i)++evL i (l.take j))/\own st' tn now.length 1 S0) /\
    fr 1=.iv (.cptr (ptr rb))/\fr 2=.iv (slG gU lines.length)/\fr 3=.iv (.cptr (slG gW lines.length))/\fr 4=.iv (.sl tn (i32I now))/\fr 5=.iv (.raw (.int .i64 (i:Int)))/\fr 45=.iv (.sl tk xk)/\fr 46=.iv (.raw (.int .i64 xk.length))/\fr 47=.iv (.raw (.int .i64 (i:Int))) /\
    fr 86=.iv (.sl tL yL)/\fr 87=.iv (.raw (.int .i64 yL.length))/\fr 88=.iv (.raw (.int .i64 (j:Int)))/\ds=[]) ?_ ?_ ?_
   ·simp only[go_sem,zE];exact⟨⟨us,hPr,by simpa[evL] using hU,hown2⟩,f1,f2,f3,f4,f5,f45,f46,f47,rfl⟩
   ·rintro j fr st5 _ hjt ⟨⟨us,hP,hU,hown⟩,f1,f2,f3,f4,f5,f45,f46,f47,f86,f87,f88,rfl⟩;have hjl:j<l.length:=by rw[<- hyl];exact hjt
    obtain⟨k,hk⟩:=yQ1 hjl;obtain⟨xk1,hxk1,hxk2⟩:=hyL.2 j k hk;obtain⟨_,hk2,hk3,hk4,hk5⟩:=hA.lk hS (lMg hl) (lMg hk);have hto:=λst=>to_c gl k xk1 hxk2 hk2 st;obtain⟨kp,kq,rfl,hkq⟩:=id hxk2;have hwt:=hP.mem.wts;have hgi:(gs++[g])[i]?=some g:=by rw[<- hgl,List.getElem?_append_right (Nat.le_refl _),Nat.sub_self];rfl
    have hwl:(wsOf (links.take i)).length=i:=by unfold wsOf;rw[List.length_map,List.length_take];omega
    have hwi:(wsOf (links.take i)++[rowJ l j])[i]?=some (rowJ l j):=by rw[List.getElem?_append_right (by omega),hwl,Nat.sub_self];rfl
    have hrw:=hP.mem.row i g _ hgi hwi;have hrwl:=wV7 l (j:=j) (by omega);have hwci:(rwsI (gs++[g]) (wsOf (links.take i)++[rowJ l j])++List.replicate (lines.length-(gs++[g]).length) (IV.sl ⟨true,.nil,0⟩ []))[i]?=some (slG g (rowJ l j).length):=by
     have:=zYq hgi hwi;rw[List.getElem?_append_left (lGs this).1];exact this
    have hjr:j<(rowJ l j).length:=by rw[hrwl];exact hjl
    simp only[go_sem,zE,zB,zA,zL,f3,f5,f86,f87,f88,lt_i hjt,yQ3 htL,iNn,hxk1,hwt,hwci,hrw,hjr,hiL,fits,IV.one,Nat.mul_one,Nat.zero_add];have hset2:List.take j (u8J (rowJ l j))++[.raw (.int .u8 (k.2.2.length:Int))]++List.drop (j+1) (u8J (rowJ l j))=u8J (rowJ l (j+1)):=by
     rw[<- xV1 hk,<- xUq,<- yKt (by rw[zYc];exact hjr)];rfl
    rw[if_pos (by rw[zYc];omega),hset2];have hP':=hP.setW hgi hwi j (v:=k.2.2.length) (by omega);rw[xV1 hk,show (wsOf (links.take i)++[rowJ l j]).set i (rowJ l (j+1))=wsOf (links.take i)++[rowJ l (j+1)] by rw[List.set_append_right _ _ (by omega),hwl,Nat.sub_self];rfl] at hP';have hown':own (st5.put g (some (.box (u8J (rowJ l (j+1)))))) tn now.length 1 S0:=hown.mono λg' hg' _=>(yW2 hrw hg').trans hg';generalize st5.put g (some (.box (u8J (rowJ l (j+1)))))=st6 at hP' hown' ⊢;clear hP hown hwt hrw hset2;refine (hto _).mono ?_;rintro _ st6 ⟨⟨tp,rfl,htp⟩,rfl⟩;simp only[go_sem,yVf];intro _;refine LoopC.ctr k.2.2.length (λq fr st' ds=>(∃us,PS gU gW gH rb lines.length [spI ca tw xw m,.sl tl xl,.raw (.map (some mN)),.sl tk xk] S0 (gs++[g]) st' hs (wsOf (links.take i)++[rowJ l (j+1)]) us/\UsOk us (evA (links.take i)++evL i (l.take j)++evK (i,j) (k.2.2.take q))/\own st' tn now.length 1 S0) /\
     fr 1=.iv (.cptr (ptr rb))/\fr 2=.iv (slG gU lines.length)/\fr 3=.iv (.cptr (slG gW lines.length))/\fr 4=.iv (.sl tn (i32I now))/\fr 5=.iv (.raw (.int .i64 (i:Int)))/\fr 45=.iv (.sl tk xk)/\fr 46=.iv (.raw (.int .i64 xk.length))/\fr 47=.iv (.raw (.int .i64 (i:Int))) /\
     fr 86=.iv (.sl tL yL)/\fr 87=.iv (.raw (.int .i64 yL.length))/\fr 88=.iv (.raw (.int .i64 (j:Int)))/\fr 10=.iv (.raw (.int .i64 (j:Int)))/\fr 102=.iv (.sl tp (i32I k.2.2))/\fr 103=.iv (.raw (.int .i64 k.2.2.length))/\fr 104=.iv (.raw (.int .i64 (q:Int)))/\ds=[]) ?_ ?_ ?_
    ·simp only[go_sem,zE];exact⟨⟨us,hP',by simpa[evK] using hU,hown'⟩,f1,f2,f3,f4,f5,f45,f46,f47,f86,f87,f88,rfl⟩
    ·rintro q fr st7 _ hq ⟨⟨us,hP,hU,hown⟩,f1,f2,f3,f4,f5,f45,f46,f47,f86,f87,f88,f10,f102,f103,f104,rfl⟩;obtain⟨p,hp⟩:=yQ1 hq;have hpn:=hk5 p (lMg hp);obtain⟨cells,c1,c2,c3,c4⟩:=hP.usr.ex;obtain⟨lu,hlu⟩:=yQ1 (l:=us) (k:=p) (by rw[hP.ul,<- hll];exact hpn);obtain⟨tu,yu,d1,d2,d3⟩:=c3 p lu hlu;have hcv:=λn:Int=>yJ1 prog 3 21 zVi zXu .i64 n;have hw1:IntKind.i32.wrap (i:Int)=(i:Int):=IntWalk.i32_in _ (by omega);have hw2:IntKind.i32.wrap (j:Int)=(j:Int):=IntWalk.i32_in _ (by omega);have hpL:p<lines.length:=by rw[<- hll];exact hpn
     simp only[go_sem,zE,zA,zM,zL,f2,f5,f10,f102,f103,f104,lt_i hq,yQ3 htp,iNn,yGa hp,yV9,c1,d1,hpL,hcv,hw1,hw2,yQ4,fits,IV.one,Nat.mul_one,Nat.zero_add];have hub:=hU.len hlu;have hE1:(evA (links.take i)).length<=32000000*20000:=by
      have h1:=wJ4 (links:=links.take i) λl' hl'=>⟨hLall l' (List.mem_of_mem_take hl'),λk' hk'=>(hA.lk hS (List.mem_of_mem_take hl') hk').2.1⟩
      have h2:(links.take i).length<=20000:=by rw[List.length_take];omega
      exact Nat.le_trans h1 (Nat.mul_le_mul_left _ h2)
     have hE2:(evL i (l.take j)).length<=2*16000000:=by
      have h1:=wJ3 (i:=i) (l:=l.take j) λk' hk'=>(hA.lk hS (lMg hl) (List.mem_of_mem_take hk')).2.1;have h2:(l.take j).length<=16000000:=by rw[List.length_take];omega
      exact Nat.le_trans h1 (Nat.mul_le_mul_left _ h2)
     have hE3:(evK (i,j) (k.2.2.take q)).length<=2:=by unfold evK;rw[List.length_map,List.length_take];omega
     rw[lLa,lLa] at hub;refine zU5 d3 d2.1 hP.base rfl (by simp[fits,IV.one]) (by simp only;omega) (by omega) λtg' st8 w1 w2 w3 w4=>?_;have hPn:=hP.addU (u:=(i,j)) rfl hlu c1 d1 w1 w2 w3 w4;have hc8:st8 gU=some (.box cells):=w3 _ _ c1 λe=>by rw[zZ1 d3 e] at c1;cases c1
     have hown8:own (st8.put gU (some (.box (cells.set p (.sl tg' (yu++[.agg [.raw (.int .i32 (i:Int)),.raw (.int .i32 (j:Int))]])))))) tn now.length 1 S0:=hown.mono λg' hg' _=>by
      rw[yQ5 λe=>by rw[e,c1] at hg';cases hg'];exact w3 _ _ hg' λe=>by rw[zZ1 d3 e] at hg';simp at hg'
     simp only[go_sem,zE,f1,f2,f3,f4,f5,f10,f45,f46,f47,f86,f87,f88,f102,f103,f104,hc8,hpL,yQc hq (show k.2.2.length<=281474976710656 by omega),IV.one,Nat.mul_one];have hcl8:p<cells.length:=(lGs d1).1;rw[if_pos (iNn _),if_pos (show p+1<=cells.length from hcl8)];have hUn:=hU.add (p:=p) (u:=(i,j)) (lGs hlu).1;rw[show usAt us p=lu by unfold usAt;rw[hlu];rfl,List.append_assoc,<- wWk hp] at hUn;exact⟨_,by rw[<- yKt hcl8] at hPn;exact hPn,hUn,by rw[<- yKt hcl8] at hown8;exact hown8⟩
    ·rintro fr st7 _ ⟨⟨us,hP,hU,hown⟩,f1,f2,f3,f4,f5,f45,f46,f47,f86,f87,f88,f10,f102,f103,f104,rfl⟩;simp only[go_sem,zE,f1,f2,f3,f4,f5,f45,f46,f47,f86,f87,f88,f103,f104,yQi (nLi _)];rw[lTl,List.append_assoc,<- wWj hk] at hU;exact⟨⟨us,hP,hU,hown⟩,by rw[yQc hjt (by omega)]⟩
   ·rintro fr st5 _ ⟨⟨us,hP,hU,hown⟩,f1,f2,f3,f4,f5,f45,f46,f47,f86,f87,f88,rfl⟩;rw[hyl,lTl,<- wWl hl] at hU;rw[hyl,show wsOf (links.take i)++[rowJ l l.length]=wsOf (links.take (i+1)) by rw[yQ7 hl,wV8];unfold wsOf;rw[List.map_append];rfl] at hP;simp only[go_sem,zE,f1,f2,f3,f4,f45,f46,f47,f87,f88,yQi (nLi _),yQc hlt (show xk.length<=281474976710656 by omega)];exact⟨_,hs,us,tn,now,hP,hU,hown,rfl,hH,hN⟩
  ·have hht:=hP.mem.hts;have hhl:=hP.mem.hl;have hiL:i<lines.length:=by omega
   have hcv:=λn:Int=>yJ1 prog 3 21 zVi zXu .i64 n;have hw:IntKind.i32.wrap (i:Int)=(i:Int):=IntWalk.i32_in _ (by omega);simp only[go_sem,zE,zA,zL,f1,f4,hrb2,hht,fits,IV.one,Nat.mul_one,Nat.zero_add,iNn,hiL,yQ4,hcv,hw];have hset:List.take i (yQk hs)++[.raw (.int .i64 1)]++List.drop (i+1) (yQk hs)=yQk (hs.set i 1):=by
    rw[<- xVz,<- yKt (by rw[yQq,hhl];exact hiL)];rfl
   rw[if_pos (by rw[yQq,hhl];omega),hset];have hP':=hP.setH i 1;have hown':own (st2.put gH (some (.box (yQk (hs.set i 1))))) tn now.length 1 S0:=hown.mono λg hg _=>(yW2 hht hg).trans hg;have hx0:hs[i]?=some 0:=by
    obtain⟨x,hx⟩:=yQ1 (l:=hs) (k:=i) (by rw[hhl];exact hiL);rw[hx,(hH i x hx).2 (Nat.le_refl _)]
   have hnl:=hN.len;generalize st2.put gH (some (.box (yQk (hs.set i 1))))=st3 at hP' hown' ⊢;refine zU5 hown' (yVf now) hP'.base rfl (by simp[fits,IV.one]) (by simp only;omega) (by omega) λtn' st4 w1 w2 w3 w4=>?_;simp only[go_sem,zE,f1,f2,f3,f45,f46,f47];exact⟨_,us,tn',now++[i],hP'.far hown' w2 w3,hU,by rw[lLa];exact w1,by simp[i32I],hH.one (hclL.2 hs1),hN.add hx0⟩
  ·simp only[go_sem,zE,f1,f2,f3,f4,f45,f46,f47];exact⟨hs,us,tn,now,hP,hU,hown,rfl,hH.zero (λh=>(by rw[hclL.1 h] at hs1;cases hs1)),hN⟩
 ·rintro fr st2 _ ⟨⟨gs,hs,us,tn,now,hP,hU,hown,f4,hH,hN⟩,f1,f2,f3,f45,f46,f47,rfl⟩;rw[hxkl,lTl] at hP hU;rw[hxkl] at hH;have hus:∀p u,(usAt us p).count u=(lkAt links u).count p:=λp u=>(hU p u).trans (vQx links p u);have hR0:Rnd (clL W lines) links 2 hs (wsOf links) now:=Rnd.start (λl hl k hk=>(hA.lk hS hl hk).1) (by rw[hP.mem.hl,hll]) (λi x hx=>(hH i x hx).1 (by rw[hll,<- hP.mem.hl];exact (lGs hx).1)) hN.1 hN.2;have hgsn:gs.length=lines.length:=by rw[hP.mem.gll];unfold wsOf;rw[List.length_map,hll]
  have h2:∀u,(lkAt links u).length<=2:=λu=>by
   unfold lkAt;cases hk:((links[u.1]?).getD [])[u.2]? with
   | none=>simp
   | some k =>
    cases hl:links[u.1]? with
    | none=>rw[hl] at hk;simp at hk
    | some l =>
     rw[hl] at hk;exact (hA.lk hS (lMg hl) (lMg hk)).2.1
  have hin:∀u,∀p∈lkAt links u,p<links.length:=λu p hp=>by
   unfold lkAt at hp;cases hk:((links[u.1]?).getD [])[u.2]? with
   | none=>rw[hk] at hp;cases hp
   | some k =>
    rw[hk] at hp;cases hl:links[u.1]? with
    | none=>rw[hl] at hk;simp at hk
    | some l =>
     rw[hl] at hk;exact (hA.lk hS (lMg hl) (lMg hk)).2.2.2.2 p hp
  have hcz:hs.count 0<=20000:=by
   have:=List.count_le_length (a:=0) (l:=hs);have:=hP.mem.hl;omega
  simp only[go_sem,zE,f1,f3,f46,f47,yQi (nLi _)];refine LoopC.dec (2*hs.count 0+if now=[] then 0 else 1) (λq fr st' ds=>(∃H hs ws tn now,q=2*hs.count 0+(if now=[] then 0 else 1)/\2<=H/\H+hs.count 0<=20002+(if now=[] then 1 else 0)/\PS gU gW gH rb lines.length [spI ca tw xw m,.sl tl xl,.raw (.map (some mN)),.sl tk xk] S0 gs st' hs ws us /\
   Rnd (clL W lines) links H hs ws now/\okEs tn 1/\fr 4=.iv (.sl tn (i32I now))/\fr 15=.iv (.raw (.int .i64 (H:Int)))) /\
   fr 1=.iv (.cptr (ptr rb))/\fr 2=.iv (slG gU lines.length)/\fr 3=.iv (.cptr (slG gW lines.length))/\fr 14=.iv (.fn (.func 81) [] [.cptr (slG gW lines.length),.cptr (ptr rb)])/\ds=[]) ?_ ?_
  ·simp only[go_sem,zE,f1,f2,f3,f4];exact⟨2,hs,_,tn,now,rfl,Nat.le_refl _,by omega,hP,hR0,hown.es,rfl,rfl⟩
  ·rintro q fr st3 _ ⟨⟨H,hs,ws,tn,now,hq,hH2,hHz,hP,hR,htn,f4,f15⟩,f1,f2,f3,f14,rfl⟩;by_cases hne:now=[]
   ·subst hne;simp only[go_sem,zL,f4,yVf,List.length_nil,show decide (((0:Nat):Int) > 0)=false from rfl];have hrb3:=hP.mem.rbx;simp only[List.cons_append,List.nil_append] at hrb3;exact yQ0 ⟨rfl,gH,hs,hrb3,hP.mem.hts,hP.mem.hl,(Sett.right (us:=us) (.done H hs ws) hR hH2 hus h2 hin).2,hP.base⟩
   ·have hpos:0<now.length:=List.length_pos_iff.2 hne;rw[if_neg hne] at hq hHz;simp only[go_sem,zE,f4,yVf,show decide (((now.length:Nat):Int) > 0)=true from dEt (by omega)];intro _ _;refine LoopC.ctr now.length (λa fr st' ds=>(∃tq S,S=((now.take a).flatMap (usAt us)).foldl (yJc H) (hs,ws,[])/\PS gU gW gH rb lines.length [spI ca tw xw m,.sl tl xl,.raw (.map (some mN)),.sl tk xk] S0 gs st' S.1 S.2.1 us/\RdS links hs S/\own st' tq S.2.2.length 1 S0/\fr 16=.iv (.sl tq (i32I S.2.2))) /\
     fr 1=.iv (.cptr (ptr rb))/\fr 2=.iv (slG gU lines.length)/\fr 3=.iv (.cptr (slG gW lines.length))/\fr 14=.iv (.fn (.func 81) [] [.cptr (slG gW lines.length),.cptr (ptr rb)])/\fr 15=.iv (.raw (.int .i64 (H:Int))) /\
     fr 131=.iv (.sl tn (i32I now))/\fr 132=.iv (.raw (.int .i64 now.length))/\fr 133=.iv (.raw (.int .i64 (a:Int)))/\ds=[]) ?_ ?_ ?_
    ·simp only[go_sem,zE];exact⟨⟨⟨true,.nil,0⟩,_,rfl,hP,⟨Nat.add_zero _,hR.wd⟩,own.nil ..,rfl⟩,f1,f2,f3,f14,f15,rfl⟩
    ·rintro a fr st4 _ ha ⟨⟨tq,S,hSe,hP,hRd,hown,f16⟩,f1,f2,f3,f14,f15,f131,f132,f133,rfl⟩;obtain⟨i,hi⟩:=yQ1 ha;have hiL:i<lines.length:=by
      have:=(lGs ((hR.nw i).1 (lMg hi))).1;rw[hR.len,hll] at this;exact this
     obtain⟨cells,c1,c2,c3,c4⟩:=hP.usr.ex;obtain⟨lu,hlu⟩:=yQ1 (l:=us) (k:=i) (by rw[hP.ul];exact hiL);obtain⟨tu,yu,d1,d2,d3⟩:=c3 i lu hlu;have hua:usAt us i=lu:=by unfold usAt;rw[hlu];rfl
     have hyul:=d2.1;have hyb:yu.length<=32000000*20000:=by
      have h1:=hU.len hlu;have h2:=wJ4 (links:=links) λl' hl'=>⟨hLall l' hl',λk' hk'=>(hA.lk hS hl' hk').2.1⟩
      have h3:links.length<=20000:=by omega
      rw[hyul];exact Nat.le_trans h1 (Nat.le_trans h2 (Nat.mul_le_mul_left _ h3))
     simp only[go_sem,zE,f2,f131,f132,f133,lt_i ha,yQ3 htn,iNn,yGa hi,yV9,c1,d1,hiL,fits,IV.one,Nat.mul_one,Nat.zero_add];intro _;refine LoopC.ctr yu.length (λb fr st' ds=>(∃tq S,S=((now.take a).flatMap (usAt us)++lu.take b).foldl (yJc H) (hs,ws,[])/\PS gU gW gH rb lines.length [spI ca tw xw m,.sl tl xl,.raw (.map (some mN)),.sl tk xk] S0 gs st' S.1 S.2.1 us/\RdS links hs S/\own st' tq S.2.2.length 1 S0/\fr 16=.iv (.sl tq (i32I S.2.2))) /\
      fr 1=.iv (.cptr (ptr rb))/\fr 2=.iv (slG gU lines.length)/\fr 3=.iv (.cptr (slG gW lines.length))/\fr 14=.iv (.fn (.func 81) [] [.cptr (slG gW lines.length),.cptr (ptr rb)])/\fr 15=.iv (.raw (.int .i64 (H:Int))) /\
      fr 131=.iv (.sl tn (i32I now))/\fr 132=.iv (.raw (.int .i64 now.length))/\fr 133=.iv (.raw (.int .i64 (a:Int)))/\fr 140=.iv (.sl tu yu)/\fr 141=.iv (.raw (.int .i64 yu.length))/\fr 142=.iv (.raw (.int .i64 (b:Int)))/\ds=[]) ?_ ?_ ?_
     ·simp only[go_sem,zE];exact⟨⟨tq,S,hSe,hP,hRd,hown,f16⟩,f1,f2,f3,f14,f15,f131,f132,f133,rfl⟩
     ·rintro b fr st5 _ hb ⟨⟨tq,S,hSe,hP,hRd,hown,f16⟩,f1,f2,f3,f14,f15,f131,f132,f133,f140,f141,f142,rfl⟩;obtain⟨u,hu⟩:=yQ1 (l:=lu) (k:=b) (by rw[<- hyul];exact hb);obtain⟨yy,hyy,hyu⟩:=d2.2 b u hu;have hlk:lkAt links u≠[]:=λe=>by
       have h1:=hus i u;rw[hua,e] at h1;have h3:0<lu.count u:=List.count_pos_iff.2 (lMg hu);rw[h1] at h3;simp at h3
      obtain⟨x,hx⟩:=hRd.2 u hlk;obtain⟨w,hw,hwx⟩:∃w,S.2.1[u.1]?=some w/\w[u.2]?=some x:=by
       unfold atW at hx;cases hw:S.2.1[u.1]? with
       | none=>rw[hw] at hx;simp at hx
       | some w=>rw[hw] at hx;exact⟨w,rfl,hx⟩
      have hgn:S.2.1.length=lines.length:=by rw[<- hP.mem.gll,hgsn]
      obtain⟨h,hh⟩:=yQ1 (l:=S.1) (k:=u.1) (by rw[hP.mem.hl];have:=(lGs hw).1;omega);have hco:=wWp gl gU gW gH rb lines.length _ _ _ _ S0 gs S.1 S.2.1 us u st5 hP w hw x hwx h hh;rw[hyu] at hyy;have hstep:yJc H S u=((now.take a).flatMap (usAt us)++lu.take (b+1)).foldl (yJc H) (hs,ws,[]):=by
       rw[yQ7 hu,<- List.append_assoc,List.foldl_append,<- hSe];rfl
      have hRd':=hRd.step (H:=H) (by omega) u;have hat:atW (decW S.2.1 u) u=some ((x+255)%256):=by rw[zZo,if_pos rfl,hx];rfl
      have huL:u.1<lines.length:=by rw[<- hP.mem.hl];exact (lGs hh).1
      simp only[go_sem,zE,zB,zA,zL,f14,f140,f141,f142,lt_i hb,yQ3 d3.es,iNn,hyy,fits,IV.one];refine hco.mono ?_;rintro _ st6 ⟨rfl,hP6,hfr6⟩;have hown6:own st6 tq S.2.2.length 1 S0:=hown.mono λg' hg' _=>hfr6 _ _ _ hg';have hql:S.2.2.length<=20000:=by
       have h4:=hRd.1;have h5:=List.count_le_length (a:=0) (l:=hs);have h6:=hR.len;omega
      by_cases hcc:(x+255)%256=0/\h=0
      ·have hT:yJc H S u=(S.1.set u.1 H,decW S.2.1 u,S.2.2++[u.1]):=by
        unfold yJc;rw[if_pos ⟨by rw[hat,hcc.1],by rw[hh,hcc.2]⟩]
       rw[hT] at hstep hRd';have hht:=hP6.mem.hts;have hrb6:=hP6.mem.rbx;simp only[List.cons_append,List.nil_append] at hrb6;simp only[go_sem,zE,zA,zL,dEt hcc,f1,f15,f16,hrb6,hht,yV9,fits,IV.one,Nat.mul_one,Nat.zero_add,iNn,huL,yQ4];have hset:List.take u.1 (yQk S.1)++[.raw (.int .i64 (H:Int))]++List.drop (u.1+1) (yQk S.1)=yQk (S.1.set u.1 H):=by
        rw[<- xVz,<- yKt (by rw[yQq,hP6.mem.hl];exact huL)];rfl
       rw[if_pos (by rw[yQq,hP6.mem.hl];omega),hset];have hP7:=hP6.setH u.1 H;have hown7:own (st6.put gH (some (.box (yQk (S.1.set u.1 H))))) tq S.2.2.length 1 S0:=hown6.mono λg' hg' _=>(yW2 hht hg').trans hg';generalize st6.put gH (some (.box (yQk (S.1.set u.1 H))))=st7 at hP7 hown7 ⊢;refine zU5 hown7 (yVf _) hP7.base rfl (by simp[fits,IV.one]) (by simp only;omega) (by omega) λtq' st8 w1 w2 w3 w4=>?_;simp only[go_sem,zE,f1,f2,f3,f14,f15,f131,f132,f133,f140,f141,f142,yQc hb (show yu.length<=281474976710656 by omega)];exact⟨tq',_,hstep,hP7.far hown7 w2 w3,hRd',by rw[lLa];exact w1,by simp[i32I]⟩
      ·have hF:yJc H S u=(S.1,decW S.2.1 u,S.2.2):=by
        unfold yJc;rw[if_neg λe=>hcc ⟨by have:=e.1;rw[hat] at this;exact Option.some.inj this,by have:=e.2;rw[hh] at this;exact Option.some.inj this⟩]
       rw[hF] at hstep hRd';simp only[go_sem,zE,dEf hcc,f1,f2,f3,f14,f15,f16,f131,f132,f133,f140,f141,f142,yQc hb (show yu.length<=281474976710656 by omega)];exact⟨tq,_,hstep,hP6,hRd',hown6,rfl⟩
     ·rintro fr st5 _ ⟨⟨tq,S,hSe,hP,hRd,hown,f16⟩,f1,f2,f3,f14,f15,f131,f132,f133,f140,f141,f142,rfl⟩;rw[hyul,lTl] at hSe;have hall:(now.take a).flatMap (usAt us)++lu=(now.take (a+1)).flatMap (usAt us):=by rw[yQ7 hi,List.flatMap_append,List.flatMap_singleton,hua]
      rw[hall] at hSe;simp only[go_sem,zE,f1,f2,f3,f14,f15,f131,f132,f133,f141,f142,yQi (nLi _),yQc ha (show now.length<=281474976710656 by omega)];exact⟨tq,S,hSe,hP,hRd,hown,f16⟩
    ·rintro fr st4 _ ⟨⟨tq,S,hSe,hP,hRd,hown,f16⟩,f1,f2,f3,f14,f15,f131,f132,f133,rfl⟩;rw[lTl] at hSe;have hnx:=hR.next hH2 hus h2 hin;rw[<- hSe] at hnx;have hc:=hRd.1;have hH20:H<=20002:=by omega
     simp only[go_sem,zE,f1,f2,f3,f14,f15,f16,f132,f133,yQi (nLi _)];refine⟨2*S.1.count 0+(if S.2.2=[] then 0 else 1),?_,H+1,S.1,S.2.1,tq,S.2.2,rfl,by omega,?_,hP,hnx,hown.es,rfl,by rw[yQc (Nat.lt_succ_self H) (by omega)]⟩
     ·by_cases h0:S.2.2=[]
      ·rw[h0,List.length_nil] at hc;rw[if_pos h0];omega
      ·have:=List.length_pos_iff.2 h0;rw[if_neg h0];omega
     ·by_cases h0:S.2.2=[]
      ·rw[h0,List.length_nil] at hc;rw[if_pos h0];omega
      ·have:=List.length_pos_iff.2 h0;rw[if_neg h0];omega
def BadR (ca:Nat)(s:Sq)(e:Nat):Prop:=(¬ (ca=1\/ca=2)/\e=2)\/((ca=1\/ca=2)/\yQo ca s=false/\e=190)\/((ca=1\/ca=2)/\yQo ca s=true/\yUf (calJ ca) (nf (s.l,s.r)) e)
theorem BadR.ne {ca:Nat}{s:Sq}{e:Nat}(h:BadR ca s e):e≠0:=by
 rcases h with⟨_,rfl⟩|⟨_,_,rfl⟩|⟨_,_,h|h⟩
 ·decide
 ·decide
 ·rw[h.1];decide
 ·rw[h.1];decide
theorem ExplR.split {ca:Nat}{s:Sq}{st st':ISt}{r:IV}(h:ExplR ca s st r st'):(∃e,BadR ca s e/\r=.tup [.raw (.pointer none),.raw (.int .i64 (e:Int))]/\st'=st) \/
  ((ca=1\/ca=2)/\yQo ca s=true/\∃m tw xw rb mN lines links,okEs tw 4/\IsFms (spW s) xw/\r=.tup [ptr rb,.raw (.int .i64 0)]/\RS ca m (spW s) tw xw rb mN st st' lines links/\ExS ca (spW s) (nf (s.l,s.r)) lines links/\links.length=lines.length):=by
 rcases h with⟨hc,h1,h2⟩|⟨hc,hv,h1,h2⟩|⟨hc,hv,⟨e,h1,h2,h3⟩|h⟩
 ·exact .inl ⟨2,.inl ⟨hc,rfl⟩,h1,h2⟩
 ·exact .inl ⟨190,.inr (.inl ⟨hc,hv,rfl⟩),h1,h2⟩
 ·exact .inl ⟨e,.inr (.inr ⟨hc,hv,h1⟩),h2,h3⟩
 ·exact .inr ⟨hc,hv,h⟩
theorem wVd (G:Gl gl)(T:Gt gl)(ca:Nat)(s:Sq)(x:IV)(hx:IsSq s x)(hs:yXx s)(st:ISt):ICall prog gl 17 [.raw (.int .u8 (ca:Int)),x] st (λr st'=>st'=st /\
  ((∃e,BadR ca s e/\r=.tup [.raw (.int .i64 0),.raw (.int .i64 (e:Int))])\/((ca=1\/ca=2)/\yQo ca s=true/\∃K:List Sn,ReachOk (calJ ca) (nf (s.l,s.r)) K/\r=.tup [.raw (.int .i64 (K.length:Int)),.raw (.int .i64 0)]))):=by
 have he:=zQd gl G T ca s x hx hs;obtain⟨t1,x1,t2,x2,rfl,e1,i1,e2,i2⟩:=hx;refine iI func17 ?_;simp only[go_sem,zE,zA,zL,reduceCtorEq];refine (he _).mono ?_;rintro r st1 hr;rcases hr.split with⟨e,hb,rfl,rfl⟩|⟨hc,hv,m,tw,xw,rb,mN,lines,links,htw,hxw,rfl,hR,hE,hl⟩
 ·have h0:decide ((e:Int)=0)=false:=dEf (by have:=hb.ne;omega);simp only[go_sem,zE,h0];exact yQ0 ⟨rfl,.inl ⟨e,hb,rfl⟩⟩
 ·obtain⟨hS,_,hWs,hin⟩:=yKi hc hv;obtain⟨tl,xl,tk,xk,hrb,hxl,hol,hxk,hok⟩:=hR.ex;simp only[go_sem,zE,decide_true,hrb];intro _;exact⟨st,hR.base,rfl,.inr ⟨hc,hv,_,hE.reach hS hR.nd (Nat.le_of_eq hl.symm),by rw[List.length_map,hxl.1]⟩⟩
theorem xVr (G:Gl gl)(T:Gt gl)(ca:Nat)(s:Sq)(x:IV)(hx:IsSq s x)(hs:yXx s)(st:ISt):ICall prog gl 18 [.raw (.int .u8 (ca:Int)),x] st (λr st'=>st'=st /\
  ((∃e,BadR ca s e/\r=.tup [.raw (.int .i64 0),.raw (.int .i64 (e:Int))])\/((ca=1\/ca=2)/\yQo ca s=true/\(∃K:List Sn,ReachOk (calJ ca) (nf (s.l,s.r)) K)/\r=.tup [.raw (.int .i64 (hF (calJ ca) (s.l,s.r):Int)),.raw (.int .i64 0)]))):=by
 have he:=zQd gl G T ca s x hx hs;obtain⟨t1,x1,t2,x2,rfl,e1,i1,e2,i2⟩:=hx;refine iI func18 ?_;simp only[go_sem,zE,zA,zL,reduceCtorEq];refine (he _).mono ?_;rintro r st1 hr;rcases hr.split with⟨e,hb,rfl,rfl⟩|⟨hc,hv,m,tw,xw,rb,mN,lines,links,htw,hxw,rfl,hR,hE,hl⟩
 ·have h0:decide ((e:Int)=0)=false:=dEf (by have:=hb.ne;omega);simp only[go_sem,zE,h0];exact yQ0 ⟨rfl,.inl ⟨e,hb,rfl⟩⟩
 ·obtain⟨hS,_,hWs,hin⟩:=yKi hc hv;obtain⟨tl,xl,tk,xk,hrb,hxl,hol,hxk,hok⟩:=hR.ex;have hA:=hE.all hl;have hse:=zYo gl ca m (spW s) hS tw xw htw hxw hWs lines links hA hE.len tl tk xl xk mN rb hxl hxk hol.es hok.es st st1 hrb hR.off.1 hR.base;simp only[go_sem,zE,zA,decide_true];refine hse.mono ?_;rintro _ st2 ⟨rfl,gH,hs2,hrb2,hgH,hhl,hlst,hsub⟩;obtain⟨ln,hln,hnf⟩:=hE.start;have h0l:=(lGs hln).1;obtain⟨h,hh⟩:=yQ1 (l:=hs2) (k:=0) (by omega);have hF0:=hA.hF hS hln (hlst 0 h hh);rw[hnf,xJi] at hF0;simp only[go_sem,zE,hrb2,hgH,fits,h0l,yZ8 hh,Nat.zero_mul,Nat.add_zero,show ((0:Int)<=0)=True from eq_true (by decide),show Int.toNat 0=0 from rfl,IV.one];rw[<- hF0];exact⟨st,hsub,rfl,.inr ⟨hc,hv,⟨_,hE.reach hS hR.nd (Nat.le_of_eq hl.symm)⟩,rfl⟩⟩
theorem wJj (s:Sn):ClF (nf s).1 (nf s).2↔ClF s.1 s.2:=by
 unfold ClF nf;simp only[yZw]
theorem xWv (G:Gl gl)(T:Gt gl)(ca:Nat)(s:Sq)(x:IV)(hx:IsSq s x)(hs:yXx s)(st:ISt):ICall prog gl 15 [.raw (.int .u8 (ca:Int)),x] st (λr st'=>st'=st /\
  ((¬ (ca=1\/ca=2)/\r=.tup [.raw (.bool false),.raw (.int .i64 2)])\/((ca=1\/ca=2)/\yQo ca s=false/\r=.tup [.raw (.bool false),.raw (.int .i64 190)]) \/
   ((ca=1\/ca=2)/\yQo ca s=true/\∃b:Bool,(b=true↔ClF s.l s.r)/\r=.tup [.raw (.bool b),.raw (.int .i64 0)]))):=by
 have hb:=xK1 gl G ca s x hx hs;have hx0:=hx;obtain⟨t1,x1,t2,x2,rfl,e1,i1,e2,i2⟩:=hx;refine iI func15 ?_;simp only[go_sem,zE,zA,zL,reduceCtorEq];refine (hb _).mono ?_;rintro _ st1 (⟨hc,rfl,rfl⟩|⟨hc,hv,rfl,rfl⟩|⟨hc,hv,m,tw,xw,hm,htw,hxw,rfl,rfl⟩)
 ·simp only[go_sem,zE,show decide ((2:Int)=0)=false from rfl];exact yQ0 ⟨rfl,.inl ⟨hc,rfl⟩⟩
 ·simp only[go_sem,zE,show decide ((190:Int)=0)=false from rfl];exact yQ0 ⟨rfl,.inr (.inl ⟨hc,hv,rfl⟩)⟩
 ·obtain⟨hS,_,hWs,hin⟩:=yKi hc hv;have hfit:=zQq hv;have hln:=zG8 hin;simp only[go_sem,zE,zA,zL,decide_true];refine (xVm gl T ca m (spW s) tw xw htw hxw hS.srt (Nat.le_trans hWs (by omega)) s _ hx0 ⟨by omega,by omega⟩ hin _).mono ?_;rintro z st1 ⟨hz,rfl⟩;have hax:=λst=>zU3 gl ca m (spW s) hS tw xw htw hxw _ hln z hz st;obtain⟨ta,tb,rfl,ea,eb⟩:=hz;simp only[go_sem,zE,zA];refine (hax _).mono ?_;rintro _ st1 ⟨⟨zf,rfl,hzf⟩,rfl⟩;obtain⟨y1,y2,y3,y4,y5,y6,rfl⟩:=hzf.agg;simp only[go_sem,zE,zA,zL];refine⟨st,yQa hm,rfl,.inr (.inr ⟨hc,hv,_,?_,rfl⟩)⟩;rw[wJl hln.1,zQh hS.srt hln,zXr hS.srt hin];exact wJj (s.l,s.r)
abbrev zT:IV:=.agg [.raw (.int .u8 0),.sl ⟨true,.nil,0⟩ [],.sl ⟨true,.nil,0⟩ [],.raw (.int .u8 0),.raw (.string noN),.sl ⟨true,.nil,0⟩ [],.sl ⟨true,.nil,0⟩ [],.raw (.bool false),.raw (.string noN),.sl ⟨true,.nil,0⟩ [],.raw (.string noN),.sl ⟨true,.nil,0⟩ []]
theorem wVi (G:Gl gl)(T:Gt gl)(ca:Nat)(s:Sq)(x:IV)(hx:IsSq s x)(hs:yXx s)(bound:Int)(hno:(ca=1\/ca=2)->yQo ca s=true->hF (calJ ca) (s.l,s.r)=0\/bound<(hF (calJ ca) (s.l,s.r):Int)) (st:ISt) :
  ICall prog gl 19 [.raw (.int .u8 (ca:Int)),x,.raw (.int .i64 bound)] st (λr st'=>st'=st /\
  ((∃e,BadR ca s e/\r=.tup [zT,.raw (.int .i64 (e:Int))])\/((ca=1\/ca=2)/\yQo ca s=true/\r=.tup [zT,.raw (.int .i64 6)]))):=by
 have he:=zQd gl G T ca s x hx hs;obtain⟨t1,x1,t2,x2,rfl,e1,i1,e2,i2⟩:=hx;refine iI func19 ?_;simp only[go_sem,zE,zA,zL,reduceCtorEq];refine (he _).mono ?_;rintro r st1 hr;rcases hr.split with⟨e,hb,rfl,rfl⟩|⟨hc,hv,m,tw,xw,rb,mN,lines,links,htw,hxw,rfl,hR,hE,hl⟩
 ·have h0:decide ((e:Int)=0)=false:=dEf (by have:=hb.ne;omega);simp only[go_sem,zE,zA,zL,h0];exact yQ0 ⟨rfl,.inl ⟨e,hb,rfl⟩⟩
 ·obtain⟨hS,_,hWs,hin⟩:=yKi hc hv;obtain⟨tl,xl,tk,xk,hrb,hxl,hol,hxk,hok⟩:=hR.ex;have hA:=hE.all hl;have hse:=zYo gl ca m (spW s) hS tw xw htw hxw hWs lines links hA hE.len tl tk xl xk mN rb hxl hxk hol.es hok.es st st1 hrb hR.off.1 hR.base;simp only[go_sem,zE,zA,decide_true];refine hse.mono ?_;rintro _ st2 ⟨rfl,gH,hs2,hrb2,hgH,hhl,hlst,hsub⟩;obtain⟨ln,hln,hnf⟩:=hE.start;have h0l:=(lGs hln).1;obtain⟨h,hh⟩:=yQ1 (l:=hs2) (k:=0) (by omega);have hF0:=hA.hF hS hln (hlst 0 h hh);rw[hnf,xJi] at hF0;have hn:=hno hc hv;rw[hF0] at hn;by_cases hz:h=0
  ·subst hz;simp only[go_sem,zE,zA,zL,hrb2,hgH,fits,h0l,yZ8 hh,Nat.zero_mul,Nat.add_zero,show ((0:Int)<=0)=True from eq_true (by decide),show Int.toNat 0=0 from rfl,IV.one,show decide (((0:Nat):Int)=0)=true from rfl];exact⟨st,hsub,rfl,.inr ⟨hc,hv,rfl⟩⟩
  ·have hz':decide ((h:Int)=0)=false:=dEf (by omega);have hgt:decide ((h:Int) > bound)=true:=dEt (by have:=hn.resolve_left hz;omega);simp only[go_sem,zE,zA,zL,hrb2,hgH,fits,h0l,yZ8 hh,Nat.zero_mul,Nat.add_zero,show ((0:Int)<=0)=True from eq_true (by decide),show Int.toNat 0=0 from rfl,IV.one,hz',hgt];exact⟨st,hsub,rfl,.inr ⟨hc,hv,rfl⟩⟩
theorem xWg {W:List Fm}{l:List Nat}{k i:Nat}{f:Fm}(h:l[k]?=some i)(hf:W[i]?=some f):fmW W (l.take (k+1))=fmW W (l.take k)++[f]:=by
 rw[yQ7 h];unfold fmW;rw[List.filterMap_append];simp[hf]
theorem vJy (ca m:Nat)(W:List Fm)(hS:SpOk ca W)(tw:Tag)(xw:List IV)(htw:okEs tw 4)(hxw:IsFms W xw)(ln:Ln)(hln:LnOk W ln)(x:IV)(hx:IsLn ln x)(st:ISt) :
  ICall prog gl 42 [spI ca tw xw m,x] st (λr st'=>IsSq ⟨fmW W ln.1,fmW W ln.2⟩ r/\st'=st):=by
 obtain⟨ta,tb,rfl,ea,eb⟩:=hx;have hl1:=yYs hln.1.1 hln.1.2;have hl2:=yYs hln.2.1 hln.2.2;have hWl:=hS.len;refine iI func42 ?_;simp only[go_sem,zE];intro _;refine LoopC.ctr (yQk ln.1).length (λk fr st' ds=>(∃t y,fr 5=.box [.sl t y,.sl ⟨true,.nil,0⟩ []]/\own st' t k 4 st/\subSt st st'/\IsFms (fmW W (ln.1.take k)) y/\y.length=k)/\fr 0=.iv (spI ca tw xw m)/\fr 3=.box [.sl ta (yQk ln.1),.sl tb (yQk ln.2)]/\fr 4=.box [.sl ⟨true,.nil,0⟩ [],.sl ⟨true,.nil,0⟩ []] /\
  fr 11=.iv (.sl ta (yQk ln.1))/\fr 12=.iv (.raw (.int .i64 (yQk ln.1).length))/\fr 13=.iv (.raw (.int .i64 (k:Int)))/\ds=[]) ?_ ?_ ?_
 ·simp only[go_sem,zE,reduceCtorEq];exact⟨⟨_,_,rfl,own.nil ..,subSt.refl _,rfl,rfl⟩,rfl⟩
 ·rintro k fr st1 _ hlt ⟨⟨t1,y1,hf5,hown,hsub,hy,hyl⟩,f0,f3,f4,fl,fn,fk,rfl⟩;rw[yQq] at hlt;obtain⟨i,hi⟩:=yQ1 hlt;have hil:=hln.1.2 i (lMg hi);obtain⟨f,hf⟩:=yQ1 hil;obtain⟨z,hz,hfz⟩:=hxw.get hf;have hcp:=λst=>zQx gl f z hfz (Nat.le_trans (hS.size (lMg hf)) (by omega)) st;have hxl2:i<xw.length:=by rw[hxw.len];exact hil
  cases f with
  | mk og ng ug sg =>
  obtain⟨tg1,xg1,tg2,xg2,rfl,hgg⟩:=hfz.mk;simp only[go_sem,zE,zB,zA,reduceCtorEq,hf5,f0,fl,fn,fk,lt_i (show k<(yQk ln.1).length by rw[yQq];exact hlt),yQ3 ea,yQ3 htw,iNn,yZ8 hi,hz,fits,IV.one];refine (hcp _).mono ?_;rintro r st1 ⟨hr,rfl⟩;obtain⟨o1,n1,t2,x2,t3,x3,rfl⟩:=IsFmD.aggs hr;simp only[go_sem,zE,zA,zM,zL,fits,yQ4];refine yZy hown hyl hsub rfl (by simp[fits,IV.one]) (by simp only;omega) (by omega) λt1' st2 w1 w2 w3=>?_;simp only[go_sem,zE,zA,zL,reduceCtorEq,f0,f3,f4,fl,fn,fk,hf5,yQc (show k<(yQk ln.1).length by rw[yQq];exact hlt) (show (yQk ln.1).length<=281474976710656 by rw[yQq];omega)];exact⟨t1',_,rfl,w1,w2,by rw[xWg hi hf];exact hy.append (.one hr.1),by rw[lLa,hyl];rfl⟩
 ·rintro fr st0 _ ⟨⟨t0,y0,f5,hown0,hsub0,hy0,hyl0⟩,f0,f3,f4,fl,fn,fk,rfl⟩;rw[yQq,lTl] at hy0;have he0:=hown0.es;simp only[go_sem,zE,f3,fn,fk,yQi (nLi _)];intro _;refine LoopC.ctr (yQk ln.2).length (λk fr st' ds=>(∃t y,fr 5=.box [.sl t0 y0,.sl t y]/\own st' t k 4 st/\subSt st st'/\IsFms (fmW W (ln.2.take k)) y/\y.length=k)/\fr 0=.iv (spI ca tw xw m)/\fr 3=.box [.sl ta (yQk ln.1),.sl tb (yQk ln.2)]/\fr 4=.box [.sl ⟨true,.nil,0⟩ [],.sl ⟨true,.nil,0⟩ []] /\
   fr 32=.iv (.sl tb (yQk ln.2))/\fr 33=.iv (.raw (.int .i64 (yQk ln.2).length))/\fr 34=.iv (.raw (.int .i64 (k:Int)))/\ds=[]) ?_ ?_ ?_
  ·simp only[go_sem,zE,reduceCtorEq,f0,f3,f4,f5];exact⟨⟨_,_,rfl,own.nil ..,hsub0,rfl,rfl⟩,rfl⟩
  ·rintro k fr st1 _ hlt ⟨⟨t1,y1,hf5,hown,hsub,hy,hyl⟩,f0,f3,f4,fl,fn,fk,rfl⟩;rw[yQq] at hlt;obtain⟨i,hi⟩:=yQ1 hlt;have hil:=hln.2.2 i (lMg hi);obtain⟨f,hf⟩:=yQ1 hil;obtain⟨z,hz,hfz⟩:=hxw.get hf;have hcp:=λst=>zQx gl f z hfz (Nat.le_trans (hS.size (lMg hf)) (by omega)) st;have hxl2:i<xw.length:=by rw[hxw.len];exact hil
   cases f with
   | mk og ng ug sg =>
   obtain⟨tg1,xg1,tg2,xg2,rfl,hgg⟩:=hfz.mk;simp only[go_sem,zE,zB,zA,reduceCtorEq,hf5,f0,fl,fn,fk,lt_i (show k<(yQk ln.2).length by rw[yQq];exact hlt),yQ3 eb,yQ3 htw,iNn,yZ8 hi,hz,fits,IV.one];refine (hcp _).mono ?_;rintro r st1 ⟨hr,rfl⟩;obtain⟨o1,n1,t2,x2,t3,x3,rfl⟩:=IsFmD.aggs hr;simp only[go_sem,zE,zA,zM,zL,fits,yQ4];refine yZy hown hyl hsub rfl (by simp[fits,IV.one]) (by simp only;omega) (by omega) λt1' st2 w1 w2 w3=>?_;simp only[go_sem,zE,zA,zL,reduceCtorEq,f0,f3,f4,fl,fn,fk,hf5,yQc (show k<(yQk ln.2).length by rw[yQq];exact hlt) (show (yQk ln.2).length<=281474976710656 by rw[yQq];omega)];exact⟨t1',_,rfl,w1,w2,by rw[xWg hi hf];exact hy.append (.one hr.1),by rw[lLa,hyl];rfl⟩
  ·rintro fr st1 _ ⟨⟨t1,y1,f5,hown,hsub,hy,hyl⟩,f0,f3,f4,fl,fn,fk,rfl⟩;rw[yQq,lTl] at hy;have he1:=hown.es;simp only[go_sem,zE,zA,zL,f4,f5,fn,fk,yQi (nLi _)];exact⟨st,hsub,⟨t0,y0,t1,y1,rfl,he0,hy0,he1,hy⟩,rfl⟩
theorem xQh (ents:Array MapEntry):yGp ents #[]=ents.toList:=by
 unfold yGp;rw[List.filter_eq_self];intro e _;simp
theorem wZj {ents:Array MapEntry}{seen:Array Nat}{e:MapEntry}(h:e∈yGp ents seen):e∈ents.toList:=(List.mem_filter.1 h).1
theorem xGf {ents:Array MapEntry}(hn:(ents.toList.map (·.born)).Nodup)(seen:Array Nat){e:MapEntry}(h:e∈ents.toList):wX5 ents (seen.push e.born)=keyI e.key:=by
 have hf:ents.toList.find? (λx=>x.born == e.born)=some e:=find_born e ents.toList hn h;unfold wX5;rw[Array.back?_push,Option.bind_some,hf,Option.bind_some]
theorem xGd {ents:Array MapEntry}(hn:(ents.toList.map (·.born)).Nodup){seen:Array Nat}{e:MapEntry}(h:e∈yGp ents seen):(yGp ents (seen.push e.born)).length+1=(yGp ents seen).length:=by
 unfold yGp at h ⊢;generalize ents.toList=l at h hn
 induction l with
 | nil=>cases h
 | cons a l ih =>
  rw[List.map_cons,List.nodup_cons] at hn;by_cases hae:a=e
  ·subst hae;have h1:seen.contains a.born=false:=by simpa using (List.mem_filter.1 h).2
   have h2:(seen.push a.born).contains a.born=true:=by simp
   rw[List.filter_cons_of_neg (by rw[h2];simp),List.filter_cons_of_pos (by rw[h1];rfl),List.length_cons];congr 2;apply List.filter_congr;intro x hx;have hne:x.born≠a.born:=λhq=>hn.1 (hq▸List.mem_map_of_mem hx);simp[hne]
  ·have hm:e∈l.filter λe=>!seen.contains e.born:=by
    have h':=List.mem_filter.1 h;rcases List.mem_cons.1 h'.1 with hq|hq
    ·exact absurd hq.symm hae
    ·exact List.mem_filter.2 ⟨hq,h'.2⟩
   have hel:e∈l:=(List.mem_filter.1 hm).1;have hne:a.born≠e.born:=λhq=>hn.1 (hq▸List.mem_map_of_mem hel);have hi:=ih hm hn.2;have hc:(seen.push e.born).contains a.born=seen.contains a.born:=by
    simp[hne]
   rw[List.filter_cons,List.filter_cons,hc];split
   ·rw[List.length_cons,List.length_cons,<- hi]
   ·exact hi
def wG6 (b:Nat):IV:=.fn (.func 191) [] [.raw (.pointer (some ⟨b,0,none⟩))]
theorem vZo (m:Nat)(st:ISt) :
  ICall prog gl 140 [.raw (.map (some m))] st (λr st'=>∃b,st b=none/\r=wG6 b/\st'=st.put b (some (.box [.raw (.map (some m))]))):=by
 refine ICall.intro (c:=cf prog gl [1] []) func140 rfl (by show _<=4;simp) (by kernel_rfl) ?_;simp only[go_sem,zE];refine λb=>yQ8 λhb=>?_;exact yQ0 ⟨b,hb,rfl,rfl⟩
structure EntOk (ents:Array MapEntry)(clock:Nat):Prop where
 key:∀e∈ents.toList,∃s n,keyI e.key=some (.agg [.raw (.string s),.raw (.int .i64 n)])
 born:∀e∈ents.toList,e.born<clock
 nd:(ents.toList.map (·.born)).Nodup
def symH (ents:Array MapEntry)(h:List MapEntry)(a:List IV)(h':List MapEntry):Prop:=h.length<ents.toList.length/\∃e∈ents.toList,∃x,keyI e.key=some x/\a=[x]/\h'=h++[e]
def finH (ents:Array MapEntry)(h:List MapEntry):Prop:=h.length=ents.toList.length/\(∀e∈ents.toList,e∈h)/\∀e∈h,e∈ents.toList
theorem wW3 {ents:Array MapEntry}{seen:Array Nat}{h:List MapEntry}{e:MapEntry}(hn:(ents.toList.map (·.born)).Nodup)(he:e∈ents.toList)(hc:∀e∈ents.toList,e∈h\/e∈yGp ents seen):∀x∈ents.toList,x∈h++[e]\/x∈yGp ents (seen.push e.born):=λx hx=>by
 by_cases hxe:x.born=e.born
 ·left;have h1:=find_born e ents.toList hn he;have h2:=find_born x ents.toList hn hx;rw[hxe,h1] at h2;rw[<- Option.some.inj h2];simp
 ·rcases hc x hx with h1|h1
  ·exact .inl (List.mem_append_left _ h1)
  ·refine .inr (List.mem_filter.2 ⟨hx,?_⟩);have h2:seen.contains x.born=false:=by simpa using (List.mem_filter.1 h1).2
   have h3:(seen.push e.born).contains x.born=false:=by
    simp only[Array.contains_eq_mem,Array.mem_push,decide_eq_false_iff_not] at h2 ⊢;simp[hxe,h2]
   rw[h3];rfl
theorem wYa (m b clock:Nat)(ents:Array MapEntry)(hE:EntOk ents clock):xKc prog gl 191 [] [.raw (.pointer (some ⟨b,0,none⟩))] (zZ2 (symH ents)) [] (finH ents)
  (λ_ st=>st b=some (.box [.raw (.map (some m))])/\st m=some (.mapx ents clock)) noUp:=by
 rintro y I' S' st ⟨g,fi,ca,rfl,hfn,hent⟩ hI _ hy h0;change ICall prog gl _ [.fn g fi ca,_] st _;obtain⟨stu0,hs0,hb0,hm0⟩:=hI [] st h0;have hb:=hs0 _ _ hb0;have hm:=hs0 _ _ hm0;refine iI func191 ?_;simp only[go_sem,reduceCtorEq,hb,hm];refine λr=>yQ8 λhr=>?_;have hrb:b≠r:=yXt hb hr;have hrm:m≠r:=yXt hm hr;have hchk:((∀e∈ents.toList,e.born<clock/\(keyI e.key).isSome=true)/\clock<=clock)=True:=eq_true ⟨λe he=>⟨hE.born e he,by obtain⟨s,n,hk⟩:=hE.key e he;rw[hk];rfl⟩,Nat.le_refl _⟩;have hnd:(ents.toList.map (·.born)).Nodup=True:=eq_true hE.nd;refine LoopC.dec ents.toList.length (λk fr st' ds=>(∃seen stu h,(yGp ents seen).length=k/\h.length+k=ents.toList.length/\((∀e∈ents.toList,e∈h\/e∈yGp ents seen)/\∀e∈h,e∈ents.toList)/\stu r=none/\st'=stu.put r (some (.iter m clock seen clock))/\I' h stu)/\k<=ents.toList.length/\fr 0=.iv (.fn g fi ca)/\fr 5=.iv (.raw (.pointer (some ⟨r,0,none⟩)))/\ds=[]) ?_ ?_
 ·simp only[go_sem,reduceCtorEq];exact⟨⟨#[],st,[],by rw[xQh],Nat.zero_add _,⟨λe he=>.inr (by rw[xQh];exact he),λe he=>by cases he⟩,hr,rfl,h0⟩,Nat.le_refl _⟩
 ·rintro k fr _ _ ⟨⟨seen,stu,hs,hlen,hhl,hcov,hr,rfl,hIk⟩,hkl,f0,f5,rfl⟩;obtain⟨stu0,hs0,hb0,hm0⟩:=hI _ stu hIk;have hm:=hs0 _ _ hm0;have hb:=hs0 _ _ hb0;simp only[go_sem,reduceCtorEq,f5,ISt.put_same,yQ5 hrm,hm,hchk];refine⟨λhnil=>?_,λe he x hx=>?_⟩
  ·simp only[go_sem];refine yQf (yQa hr) (.inl ⟨hs,⟨by rw[hnil] at hlen;simp at hlen;omega,λe he=>(hcov.1 e he).resolve_right (by rw[hnil];simp),hcov.2⟩,hIk⟩)
  ·have hem:=wZj he;obtain⟨s,n,hk⟩:=hE.key e hem;rw[hk] at hx;cases hx;have hlast:=xGf hE.nd seen hem;rw[hk] at hlast;have hpush:=xGd hE.nd he;simp only[go_sem,zE,zA,zL,reduceCtorEq,f0,f5,ISt.put_same,yQ5 hrm,hm,hnd,hlast,yQ9];refine yZ4 hent ((ICallV.put gl (show ICallV prog gl _ [_] stu _ from hy hs _ (λ_=>none) (hs++[e]) stu ⟨⟨by omega,e,hem,_,hk,rfl,rfl⟩,rfl⟩ (λ_ hb=>absurd rfl hb) hIk) hr _).mono ?_);rintro _ _ ⟨stu',hr',rfl,⟨rfl,s1,h,_,rfl⟩|⟨rfl,h⟩⟩
   ·simp only[go_sem,zE,reduceCtorEq,f0,f5];exact⟨(yGp ents (seen.push e.born)).length,by omega,⟨seen.push e.born,_,hs++[e],rfl,by rw[lLa,List.length_singleton];omega,⟨wW3 hE.nd hem hcov.1,λx hx=>by rcases List.mem_append.1 hx with h1|h1;exact hcov.2 x h1;rw[List.mem_singleton.1 h1];exact hem⟩,hr',rfl,h⟩,by omega⟩
   ·simp only[go_sem];exact yQf (yQa hr') (.inr h)
theorem one_sl (a:Option Addr)(n c:Nat):IV.one (.raw (.slice a n c))=true:=rfl
theorem put3 (s:ISt)(b g:Nat)(x y z:Option IObj):((s.put b x).put g y).put b z=(s.put g y).put b z:=by
 funext c;simp only[ISt.put_apply];by_cases h:c=b
 ·rw[if_pos h,if_pos h]
 ·rw[if_neg h,if_neg h,if_neg h]
theorem put4 (s:ISt)(b g h:Nat)(x y u z:Option IObj):(((s.put b x).put g y).put h u).put b z=((s.put g y).put h u).put b z:=by
 funext c;simp only[ISt.put_apply];by_cases hc:c=b
 ·rw[if_pos hc,if_pos hc]
 ·rw[if_neg hc,if_neg hc,if_neg hc]
def keyD (e:MapEntry):IV:=(keyI e.key).getD (.raw (.bool true))
def wY6 (st:ISt)(h:List MapEntry)(r:IV)(st':ISt):Prop:=∃xs:List IV,xs.Perm (h.map keyD) /\
 ((h=[]/\∃f e,r=.sl ⟨f,.nil,e⟩ [])\/∃g cap cs,h≠[]/\st g=none/\r=.raw (.slice (some ⟨g,0,none⟩) h.length cap)/\st' g=some (.box cs)/\h.length<=cap/\cap*2<=cs.length/\cs.take (h.length*2)=xs.flatMap IV.cells)
theorem xZr (g:FuncId)(caps:List IV)(ents:Array MapEntry)(hE:∀e∈ents.toList,∃s n,keyI e.key=some (.agg [.raw (.string s),.raw (.int .i64 n)]))(hlen:ents.toList.length<=1000000000)(st:ISt)(he:entI prog g=true)(Base:ISt->Prop)(hB:Base st)
  (hi:xKc prog gl g [] caps (zZ2 (symH ents)) [] (finH ents) (λ_=>Base) noUp) (f:Bool) (es:Nat) :
  ICall prog gl 231 [.sl ⟨f,.nil,es⟩ [],.fn (.func g) [] caps] st (λr st'=>(∃h,finH ents h/\wY6 st h r st')/\subSt st st'):=by
 refine ICall.intro (c:=cf prog gl [2,11] []) func231 rfl (by show _<=13;simp) (by kernel_rfl) ?_;simp only[go_sem,zE,reduceCtorEq];refine λb=>yQ8 λhb=>?_;refine RangeH.intro (symH ents) [] (finH ents) (λh st'=>h.length<=ents.toList.length/\∃cell s1,s1 b=none/\st'=s1.put b (some (.box [cell]))/\wY6 st h cell s1/\subSt st s1) (λ_ _=>False) he ?_ ?_ ?_ ?_ ?_ (λ_ _ _ h=>h.elim)
 ·rintro h a h' ⟨_,e,_,x,_,rfl,_⟩;rfl
 ·exact⟨Nat.zero_le _,_,st,hb,rfl,⟨[],.nil,.inl ⟨rfl,f,es,rfl⟩⟩,subSt.refl _⟩
 ·rintro h a h' _ ⟨hkn,e,hem,x,hx,rfl,rfl⟩ ⟨_,cell,s1,hbn,rfl,⟨xs,hxl,hcell⟩,hsub⟩;obtain⟨s,n,hk⟩:=hE e hem;rw[hk] at hx;cases hx;have hke:keyD e=.agg [.raw (.string s),.raw (.int .i64 n)]:=by unfold keyD;rw[hk];rfl
  have hlen':(h++[e]).length=h.length+1:=by simp
  rcases hcell with⟨rfl,f,es,rfl⟩|⟨g2,cap,cs,hk0,hgn,rfl,hg,hkc,hcc,htk⟩
  ·simp only[go_sem,zE,zA,zM,zL,ISt.put_same,fits,show yJx 1 [(0,Operand.tmp 9)]=true from rfl];refine λg cap=>yQ8 λ⟨hg,hc⟩=>?_;have hgb:g≠b:=by rintro rfl;rw[ISt.put_same] at hg;cases hg
   rw[yQ5 hgb] at hg;simp only[go_sem,zL,ISt.put_same,yQ5 hgb.symm,one_sl];refine⟨by omega,_,_,?_,put3 ..,⟨[.agg [.raw (.string s),.raw (.int .i64 n)]],?_,.inr ⟨g,cap,_,by simp,?_,rfl,ISt.put_same ..,hc,?_,?_⟩⟩,hsub.trans (yQa hg)⟩
   ·rw[yQ5 hgb.symm];exact hbn
   ·simp[hke]
   ·cases hq:st g with
    | none=>rfl
    | some o=>have:=hsub _ _ hq;rw[hg] at this;cases this
   ·simp[IV.cells];omega
   ·simp[IV.cells]
  ·have hgb:g2≠b:=yXt hg hbn;simp only[go_sem,zE,zA,zM,zL,ISt.put_same,fits,show yJx 1 [(0,Operand.tmp 9)]=true from rfl];refine yX3 _ _ _ (cs:=cs) (by rw[yQ5 hgb];exact hg) (by simp[fits,IV.one]) ⟨by show (h.length+1)*24<=_;omega,by show h.length+1<=_;omega⟩ ⟨hkc,by show cap*2<=_;omega⟩ (by simp[IV.cells]) ?_;rintro g cap' cs' hgn' hc1 hc2 htk';have hgb':g≠b:=by
    rcases hgn' with rfl|h
    ·exact hgb
    ·rintro rfl;rw[ISt.put_same] at h;cases h
   have hs1g:g=g2\/s1 g=none:=hgn'.imp id λh=>by rwa [yQ5 hgb'] at h
   have hstg:st g=none:=by
    rcases hs1g with rfl|h
    ·exact hgn
    ·cases hq:st g with
     | none=>rfl
     | some o=>have:=hsub _ _ hq;rw[h] at this;cases this
   simp only[go_sem,zE,zL,ISt.put_same,yQ5 hgb.symm,yQ5 hgb'.symm,one_sl];refine⟨by omega,_,_,?_,put4 ..,⟨xs++[.agg [.raw (.string s),.raw (.int .i64 n)]],?_,.inr ⟨g,cap',cs',by simp,hstg,by rw[hlen'],ISt.put_same ..,by rw[hlen'];exact hc1,hc2,?_⟩⟩,λc o hc=>?_⟩
   ·rw[yQ5 hgb'.symm,yQ5 hgb.symm];exact hbn
   ·rw[List.map_append,List.map_singleton,hke];exact hxl.append_right _
   ·have:cs'.take ((h++[e]).length*2)=cs.take (h.length*2)++[.raw (.string s),.raw (.int .i64 n)]:=by rw[hlen'];simpa[IV.cells] using htk'
    rw[this,htk];simp[IV.cells]
   ·rw[yQ5 (by rintro rfl;rw[hstg] at hc;cases hc),yQ5 (by rintro rfl;rw[hgn] at hc;cases hc)];exact hsub _ _ hc
 ·rintro y I' S' st' hfn hI hup hy h0;refine hi y I' S' st' hfn (λk stu hk=>?_) hup hy h0;obtain⟨stu0,hs,_,cell,s1,hbn,rfl,_,hsub⟩:=hI k stu hk;exact⟨st,λc o hc=>hs _ _ (yQa hbn _ _ (hsub _ _ hc)),hB⟩
 ·rintro h _ r hfin ⟨_,cell,s1,hbn,rfl,hsy,hsub⟩;have hci:ivOf (.iv cell)=some cell:=by
   obtain⟨xs,_,⟨_,f,e,rfl⟩|⟨g,cap,cs,_,_,rfl,_⟩⟩:=hsy<;>rfl
  have hc1:fits false 1 cell=true:=by
   obtain⟨xs,_,⟨_,f,e,rfl⟩|⟨g,cap,cs,_,_,rfl,_⟩⟩:=hsy<;>rfl
  simp only[go_sem,zE,ISt.put_same,hci];refine yQf (st':=s1) (yQa hbn) ⟨⟨h,hfin,?_⟩,hsub⟩;exact hsy
end Go.Proofs.Tryz
namespace Go.Proofs
open Go.Shelf
def Tryz.sortSL_ren:Go.Shelf.Ren:=⟨λ| 6=>190|15=>121|14=>232|28=>162|29=>163|20=>250|21=>251|22=>252|23=>253|24=>254|25=>255|26=>256|27=>257|46=>273|47=>203|48=>204|49=>274|50=>275|57=>292|n=>n,λ| 22=>166|24=>169|25=>236|3=>3|39=>185|0=>0|53=>262|55=>264|4=>4|46=>256|45=>255|50=>125|5=>5|9=>9|66=>286|70=>290|76=>307|77=>308|n=>n,λ| n=>n⟩
theorem Tryz.sortSL:Go.Proofs.SlLaysF0.n6 Tryz.prog Tryz.sortSL_ren:={
 mixed:=by kernel_rfl
 f6:=⟨Tryz.f190.name,by decide,Tryz.func190.trans (congrArg some (by kernel_rfl))⟩
 f14:=⟨Tryz.f232.name,by decide,Tryz.func232.trans (congrArg some (by kernel_rfl))⟩
 f15:=Tryz.func121.trans (congrArg some (by kernel_rfl))
 f20:=⟨Tryz.f250.name,by decide,Tryz.func250.trans (congrArg some (by kernel_rfl))⟩
 f21:=⟨Tryz.f251.name,by decide,Tryz.func251.trans (congrArg some (by kernel_rfl))⟩
 f22:=⟨Tryz.f252.name,by decide,Tryz.func252.trans (congrArg some (by kernel_rfl))⟩
 f23:=⟨Tryz.f253.name,by decide,Tryz.func253.trans (congrArg some (by kernel_rfl))⟩
 f24:=⟨Tryz.f254.name,by decide,Tryz.func254.trans (congrArg some (by kernel_rfl))⟩
 f25:=⟨Tryz.f255.name,by decide,Tryz.func255.trans (congrArg some (by kernel_rfl))⟩
 f26:=⟨Tryz.f256.name,by decide,Tryz.func256.trans (congrArg some (by kernel_rfl))⟩
 f27:=⟨Tryz.f257.name,by decide,Tryz.func257.trans (congrArg some (by kernel_rfl))⟩
 f28:=Tryz.func162.trans (congrArg some (by kernel_rfl))
 f29:=Tryz.func163.trans (congrArg some (by kernel_rfl))
 f46:=⟨Tryz.f273.name,by decide,Tryz.func273.trans (congrArg some (by kernel_rfl))⟩
 f47:=Tryz.func203.trans (congrArg some (by kernel_rfl))
 f48:=Tryz.func204.trans (congrArg some (by kernel_rfl))
 f49:=⟨Tryz.f274.name,by decide,Tryz.func274.trans (congrArg some (by kernel_rfl))⟩
 f50:=⟨Tryz.f275.name,by decide,Tryz.func275.trans (congrArg some (by kernel_rfl))⟩
 f57:=⟨Tryz.f292.name,by decide,Tryz.func292.trans (congrArg some (by kernel_rfl))⟩
 t0:=Tryz.underlying0
 a0:=Tryz.isAgg0
 z0:=Tryz.sizeOf0
 v0:=Tryz.zeroValue0
 t3:=Tryz.underlying3
 a3:=Tryz.isAgg3
 z3:=Tryz.sizeOf3
 v3:=Tryz.zeroValue3
 t4:=Tryz.underlying4
 a4:=Tryz.isAgg4
 z4:=Tryz.sizeOf4
 v4:=Tryz.zeroValue4
 t5:=Tryz.underlying5
 a5:=Tryz.isAgg5
 z5:=Tryz.sizeOf5
 v5:=Tryz.zeroValue5
 t9:=Tryz.underlying9
 a9:=Tryz.isAgg9
 z9:=Tryz.sizeOf9
 v9:=Tryz.zeroValue9
 t22:=Tryz.underlying166
 a22:=Tryz.isAgg166
 z22:=Tryz.sizeOf166
 v22:=Tryz.zeroValue166
 t25:=Tryz.underlying236
 a25:=Tryz.isAgg236
 z25:=Tryz.sizeOf236
 v25:=Tryz.zeroValue236
 t39:=Tryz.underlying185
 a39:=Tryz.isAgg185
 z39:=Tryz.sizeOf185
 v39:=Tryz.zeroValue185
 t45:=Tryz.underlying255
 a45:=Tryz.isAgg255
 z45:=Tryz.sizeOf255
 v45:=Tryz.zeroValue255
 t46:=Tryz.underlying256
 a46:=Tryz.isAgg256
 z46:=Tryz.sizeOf256
 v46:=Tryz.zeroValue256
 t50:=Tryz.underlying125
 a50:=Tryz.isAgg125
 z50:=Tryz.sizeOf125
 v50:=Tryz.zeroValue125
 t53:=Tryz.underlying262
 a53:=Tryz.isAgg262
 z53:=Tryz.sizeOf262
 v53:=Tryz.zeroValue262
 t55:=Tryz.underlying264
 a55:=Tryz.isAgg264
 z55:=Tryz.sizeOf264
 v55:=Tryz.zeroValue264
 t66:=Tryz.underlying286
 a66:=Tryz.isAgg286
 z66:=Tryz.sizeOf286
 v66:=Tryz.zeroValue286
 t70:=Tryz.underlying290
 a70:=Tryz.isAgg290
 z70:=Tryz.sizeOf290
 v70:=Tryz.zeroValue290
 t76:=Tryz.underlying307
 a76:=Tryz.isAgg307
 z76:=Tryz.sizeOf307
 v76:=Tryz.zeroValue307
 t77:=Tryz.underlying308
 a77:=Tryz.isAgg308
 z77:=Tryz.sizeOf308
 v77:=Tryz.zeroValue308 }
namespace Tryz
open Go Go.Iv
theorem xKt:tyI Tryz.prog (Tryz.sortSL_ren.t 24)=some (true,2):=by kernel_rfl
theorem wQ8 (w:World):(isAgg (Tryz.sortSL_ren.t 24)).run Tryz.prog w=.ok true w:=(yZp xKt w).1
theorem xYn (w:World):(Go.sizeOf (Tryz.sortSL_ren.t 24)).run Tryz.prog w=.ok 2 w:=(yZp xKt w).2
end Tryz
end Go.Proofs
namespace Go.Proofs.Tryz
set_option maxRecDepth 4000
open Go Go.Iv Go.Sort Go.Shelf Go.RowKit
variable (gl:Nat->Option IV)
theorem xKa (g:FuncId)(hent:∀args w,(callFunc g args).run prog w=.ok (.enter g args) w)(xs rest:List IV)(b cap:Nat)(st:ISt)(hne:xs≠[])(hlen:xs.length<=140737488355328)(hx:∀x∈xs,fits true 2 x=true)(hb:st b=some (.box (xs.flatMap IV.cells++rest)))(cf:IV->IV->Int)
  (h1:∀x∈xs,¬ cf x x<0) (h2:∀x∈xs,∀y∈xs,∀z∈xs,cf x y<0->cf y z<0->cf x z<0) (h3:∀x∈xs,∀y∈xs,∀z∈xs,¬ cf x y<0->¬ cf y z<0->¬ cf x z<0)
  (hcmp:∀x∈xs,∀y∈xs,ICall prog (λ_=>none) g [x,y] (λ_=>none) (λr _=>r=.raw (.int .i64 (cf x y)))) :
  ICall prog gl 190 [.raw (.slice (some ⟨b,0,none⟩) xs.length cap),.fn (.func g) [] []] st
   (λr st'=>r=.tup []/\∃ys:List IV,ys.Perm xs/\ys.Pairwise (λx y=>¬ cf y x<0)/\st'=st.put b (some (.box (ys.flatMap IV.cells++rest)))):=by
 intro B X rs hg hst hv;subst hst;obtain⟨r0,r1,rfl⟩:∃r0 r1,rs=[r0,r1]:=by
  match rs,hv with
  | [a,b],_=>exact⟨a,b,rfl⟩
  | [],hv=>cases hv.1
  | [_],hv=>cases hv.1
  | _::_::_::_,hv=>cases hv.1
 obtain rfl:=V.raw_inv (hv.2 0 r0 _ rfl rfl);obtain⟨f1,f2,rfl,hf1,hf2⟩:=V.fn_inv (hv.2 1 r1 _ rfl rfl);obtain rfl:f1=[]:=List.eq_nil_of_length_eq_zero hf1.1;obtain rfl:f2=[]:=List.eq_nil_of_length_eq_zero hf2.1;obtain⟨hL,c,T,hh,hvl⟩:=hg.ok b _ hb;have hblk:b<X.w.heap.size:=hg.lt hb;have hcells:∀x∈xs,x.cells.length=2:=λx hxm=>(yZt (hx x hxm)).2.1;have hcl:c.size=xs.length*2+rest.length:=by
  have:=hvl.1;rw[lLa,yQn xs hcells,Array.length_toList] at this;exact this
 -- the elements
 let α:={ p:IV×List Value // p.1∈xs/\VL B X.L X.w p.2 p.1.cells }
 have hel:∀(l:List IV) (vs:List Value),(∀x∈l,x∈xs)->VL B X.L X.w vs (l.flatMap IV.cells)->∃d:List α,d.map (λa=>a.1.1)=l/\d.flatMap (λa=>a.1.2)=vs:=by
  intro l
  induction l with
  | nil =>
   intro vs _ hvs;exact⟨[],rfl,(List.eq_nil_of_length_eq_zero hvs.1).symm⟩
  | cons x l ih =>
   intro vs hm hvs;have hx4:=hcells x (hm x (by simp));have hlv:vs.length=2+(l.flatMap IV.cells).length:=by rw[hvs.1,List.flatMap_cons,lLa,hx4]
   have ha:VL B X.L X.w (vs.take 2) x.cells:=by
    have:=hvs.take 2
    rwa [List.flatMap_cons,List.take_left' hx4] at this
   have hbv:VL B X.L X.w (vs.drop 2) (l.flatMap IV.cells):=by
    have:=hvs.drop 2
    rwa [List.flatMap_cons,List.drop_left' hx4] at this
   obtain⟨d,hd1,hd2⟩:=ih (vs.drop 2) (λy hy=>hm y (by simp[hy])) hbv;exact⟨⟨(x,vs.take 2),hm x (by simp),ha⟩::d,by simp[hd1],by simp[hd2]⟩
 obtain⟨d,hd1,hd2⟩:=hel xs (c.toList.take (xs.length*2)) (λ_ h=>h) (by
  have:=hvl.take (xs.length*2)
  rwa [List.take_left' (yQn xs hcells)] at this)
 have hdl:d.length=xs.length:=by rw[<- hd1,List.length_map]
 have hdn:d≠[]:=by rintro rfl;exact hne (List.eq_nil_of_length_eq_zero hdl.symm)
 letI:Inhabited α:=⟨d.head hdn⟩
 let enc:α->List Value:=λa=>a.1.2
 have hk:∀a:α,(enc a).length=2:=λa=>by rw[a.2.2.1];exact hcells _ a.2.1
 have hone:∀(a:α),∀v∈enc a,v.oneCell'=true:=λa v hv=>yWz (C:=⟨prog,gl,B⟩) a.2.2 (yZt (hx _ a.2.1)).2.2.1 v hv
 let cf':α->α->Int:=λa a'=>cf a.1.1 a'.1.1
 have hO:SWO (ltOf cf'):=⟨λa=>by simp only[ltOf,decide_eq_false_iff_not];exact h1 _ a.2.1,λa a' a'' p q=>by
   simp only[ltOf,dTe] at p q ⊢;exact h2 _ a.2.1 _ a'.2.1 _ a''.2.1 p q,λa a' a'' p q=>by
   simp only[ltOf,decide_eq_false_iff_not] at p q ⊢;exact h3 _ a.2.1 _ a'.2.1 _ a''.2.1 p q⟩
 have hfl:(flatK enc 2 d.toArray).toList=c.toList.take (xs.length*2):=by
  rw[yGb hk (by decide)];exact hd2
 have hH:HoldsK enc 2 X.w b 0 d.toArray:=by
  intro j hj;have hj':j<xs.length*2:=by rw[size_flatK] at hj;simpa[hdl] using hj
  have e1:(flatK enc 2 d.toArray)[j]?=c[j]?:=by
   rw[<- Array.getElem?_toList,hfl,List.getElem?_take,if_pos hj',Array.getElem?_toList]
  have hjc:j<c.size:=by omega
  rw[Array.getElem?_eq_getElem hj,Array.getElem?_eq_getElem hjc] at e1;refine⟨?_,?_⟩
  ·rw[Nat.zero_add,yQw hh,Array.getElem?_toList,Array.getElem?_eq_getElem hjc,<- e1,id,getElem!_pos _ j hj]
  ·simp only[World.frozen?,hh];simp
 have hmono:∀(n:Nat) (dk:Array α) (os:Array Obj) (X1:WS),X1.w=sortWorldK enc 2 X.w b 0 n dk os->X1.L=X.L->∀r x,V B X.L X.w r x->V B X1.L X1.w r x:=by
  intro n dk os X1 hw hXL r x hrx;refine V.mono hrx (λj=>by rw[hXL];exact Nat.le_refl _) (λj i hi=>?_) (λj p hp=>?_)
  ·have hjb:j≠b:=by rintro rfl;rw[hL] at hi;omega
   have hjl:j<X.w.heap.size:=by
    rcases Nat.lt_or_ge j X.w.heap.size with h|h
    ·exact h
    ·rw[hg.Lnew j h] at hi;omega
   exact yXv (by rw[hw];exact yXn hjb hjl) i
  ·by_cases hjb:j=b
   ·subst hjb;simp only[shq,hh] at hp;simp only[shq,hw,zXh hh];rw[<- hp];simp[putCells]
   ·rw[<- hp];exact yZu (by rw[hw];exact yXn hjb (yVa hp))
 have hcon:=AnyQ.slices_SortFunc Tryz.sortSL 2 wQ8 xYn enc hk hone cf' hO g #[] b 0 cap d.toArray X.w hent (by
   intro n os dk hdk a a'
   let X1:WS:={ w:=sortWorldK enc 2 X.w b 0 n dk os,L:=X.L,st:=λ_=>none,d:=X.w.drawn+n }
   have hsz:=size_sortWorldK_c enc 2 X.w b 0 n dk os;have hg1:Go.Iv.Good ⟨prog,λ_=>none,B⟩ X1:=⟨λ_ _ h=>(by cases h),λ_ _ h=>(by cases h),Nat.le_trans hg.B hsz,λj hj=>hg.Lnew j (Nat.le_trans hsz hj),λ_ _ h=>(by cases h),λ_=>Nat.le_refl _⟩
   have hm1:=hmono n dk os X1 rfl rfl;have agg:∀a:α,V B X1.L X1.w (.agg (enc a).toArray) a.1.1:=λa=>by
    obtain⟨⟨x,vs⟩,hxm,hvx⟩:=a;obtain⟨cs,rfl⟩:∃cs,x=.agg cs:=by
     have:=hx x hxm;cases x<;>first|exact⟨_,rfl⟩|(simp[fits] at this)
    exact (show VL B X1.L X1.w vs cs from⟨hvx.1,λi r c hr hc=>hm1 r c (hvx.2 i r c hr hc)⟩).agg
   refine (hcmp a.1.1 a.2.1 a'.1.1 a'.2.1 B X1 [.agg (enc a).toArray,.agg (enc a').toArray] hg1 rfl (VL.cons (agg a) (VL.cons (agg a') VL.nil))).mono ?_;rintro e w' ⟨v,rfl,X',x,rfl,hg',he',hv',rfl⟩;obtain rfl:=V.raw_inv hv';refine⟨rfl,?_⟩;have hd:=hg'.dr (λ_=>rfl);rw[he'.d] at hd;exact zKw he' (λ_=>rfl) hd) hH hblk (by simp[hdl];omega)
 have harr:(⟨[.slice (some ⟨b,0,none⟩) xs.length cap,.func (.func g) ⟨[]⟩ ⟨[]⟩]⟩:Array Value)=#[.slice (some ⟨b,0,none⟩) d.toArray.size cap,.func (.func g) #[] #[]]:=by simp[hdl]
 rw[harr];refine hcon.mono ?_;rintro e w' ⟨rfl,d',n,os,hp,hs,rfl⟩;have hd'l:d'.size=xs.length:=by rw[hp.1];simp[hdl]
 have hperm:d'.toList.Perm d:=by
  have:=hp.2.2;rw[List.size_toArray,hdl,<- hd'l,Array.extract_size] at this
  rwa [hd'l,<- hdl,show d.toArray.extract 0 d.length=d.toArray by simp] at this
 have hys:∀y∈d'.toList.map (λa=>a.1.1),y∈xs:=λy hy=>by
  obtain⟨a,_,rfl⟩:=List.mem_map.1 hy;exact a.2.1
 have hblock:=zXh (enc:=enc) (k:=2) (m:=n) (dk:=d') (os:=os) hh;have hfs:(flatK enc 2 d').size=xs.length*2:=by rw[size_flatK,hd'l]
 have hpl:(putCells id 0 (flatK enc 2 d') c).toList=d'.toList.flatMap enc++c.toList.drop (xs.length*2):=by
  rw[yUt (by omega),yGb hk (by decide),hfs]
 let X':WS:={ w:=sortWorldK enc 2 X.w b 0 n d' os,L:=X.L,st:=X.st.put b (some (.box ((d'.toList.map (λa=>a.1.1)).flatMap IV.cells++rest))),d:=X.d }
 have hm:=hmono n d' os X' rfl rfl;have hsz:=size_sortWorldK_c enc 2 X.w b 0 n d' os;have hvlm:∀rs cs,VL B X.L X.w rs cs->VL B X'.L X'.w rs cs:=λrs cs h=>⟨h.1,λi r x hr hx=>hm r x (h.2 i r x hr hx)⟩
 have hgood:Go.Iv.Good ⟨prog,gl,B⟩ X':=by
  refine⟨λj o ho=>?_,λj x hj=>hm _ _ (hg.gl j x hj),Nat.le_trans hg.B hsz,λj hj=>hg.Lnew j (Nat.le_trans hsz hj),λj x hj=>?_,λhd=>Nat.le_trans (hg.dr hd) (Nat.le_add_right _ _)⟩
  ·by_cases hjb:j=b
   ·subst hjb;simp only[X',ISt.put_same,Option.some.injEq] at ho;subst ho;refine⟨hL,_,T,hblock,hvlm _ _ ?_⟩;rw[hpl];refine VL.append ?_ ?_
    ·have key:∀l:List α,VL B X.L X.w (l.flatMap enc) ((l.map λa=>a.1.1).flatMap IV.cells):=λl=>by
      induction l with
      | nil=>exact VL.nil
      | cons a l ih=>simp only[List.flatMap_cons,List.map_cons];exact a.2.2.append ih
     exact key _
    ·have:=hvl.drop (xs.length*2)
     rwa [List.drop_left' (yQn xs hcells)] at this
   ·have ho':X.st j=some o:=by simpa only[X',ISt.put_apply,if_neg hjb] using ho
    exact (hg.ok j o ho').mono (yXn hjb (hg.lt ho')) rfl hvlm
  ·obtain⟨T',z,hT⟩:=hg.gsh j x hj;refine⟨T',z,?_⟩;by_cases hjb:j=b
   ·subst hjb;simp only[shq,hh] at hT;simp only[shq,X',hblock];rw[<- hT];simp[putCells]
   ·rw[<- hT];exact yZu (yXn hjb (yVa hT))
 refine⟨_,rfl,X',.tup [],rfl,hgood,⟨rfl,rfl,rfl,hsz,λ_=>Nat.le_refl _,λj i hi=>?_,λj hj hs0=>?_,λj hj hs0=>?_,λj p hp=>?_,rfl⟩,.tup [] [] rfl (λi r c h=>by simp at h),rfl,_,?_,?_,rfl⟩
 ·have hjb:j≠b:=by rintro rfl;rw[hL] at hi;omega
  have hjl:j<X.w.heap.size:=by
   rcases Nat.lt_or_ge j X.w.heap.size with h|h
   ·exact h
   ·rw[hg.Lnew j h] at hi;omega
  exact yXv (yXn hjb hjl) i
 ·have hjb:j≠b:=by rintro rfl;rw[hb] at hs0;cases hs0
  exact⟨yXn hjb hj,rfl⟩
 ·have hjb:j≠b:=by rintro rfl;rw[hb] at hs0;cases hs0
  simp only[X',ISt.put_apply,if_neg hjb];exact hs0
 ·by_cases hjb:j=b
  ·subst hjb;simp only[shq,hh] at hp;simp only[shq,X',hblock];rw[<- hp];simp[putCells]
  ·rw[<- hp];exact yZu (yXn hjb (yVa hp))
 ·have:=hperm.map (λa:α=>a.1.1)
  rwa [hd1] at this
 ·rw[List.pairwise_map];refine List.pairwise_iff_getElem.2 λi j hi hj hij=>?_;have:=hs i j (Nat.zero_le _) hij (by simp at hj ⊢;omega);simp only[ltOf,decide_eq_false_iff_not] at this;rw[Array.length_toList] at hi hj;rw[getElem!_pos d' i hi,getElem!_pos d' j hj] at this;exact this
end Go.Proofs.Tryz
namespace Go.Proofs.Tryz
open Go Go.Iv Go.Sort Go.Shelf Go.RowKit
set_option maxRecDepth 4000
variable (gl:Nat->Option IV)
def rdS:IV->ByteArray×Nat
 | .agg [.raw (.string s),.raw (.int _ n)]=>(s,n.toNat)
 | _=>(⟨#[]⟩,0)
noncomputable def zQf (p q:ByteArray×Nat):Int:=lexI (cmpB p.1 q.1) (cmpN p.2 q.2)
def vYn (x:IV):Prop:=∃(s:ByteArray) (n:Nat),x=.agg [.raw (.string s),.raw (.int .i64 (n:Int))]
theorem wKt (s t:ByteArray)(n m:Nat)(st:ISt):ICall prog gl 141 [.agg [.raw (.string s),.raw (.int .i64 (n:Int))],.agg [.raw (.string t),.raw (.int .i64 (m:Int))]] st
  (λr st'=>r=.raw (.int .i64 (zQf (s,n) (t,m)))/\st'=st):=by
 have h1:=λst=>zV4 gl s t st;have h2:=λst=>zGh gl n m st;refine iI func141 ?_;simp only[go_sem,zE,zA];refine (h1 _).mono ?_;rintro _ st ⟨rfl,rfl⟩;by_cases h0:cmpB s t=0
 ·simp only[go_sem,zE,zA,h0,decide_true,Bool.not_true];refine (h2 _).mono ?_;rintro _ st ⟨rfl,rfl⟩;simp only[go_sem];exact yQ0 ⟨by simp[zQf,lexI,h0],rfl⟩
 ·simp only[go_sem,zE,i1 _ h0];exact yQ0 ⟨by simp[zQf,lexI,h0],rfl⟩
theorem xU4 (t:Tag)(ht:t.cap=.nil)(g:FuncId)(st:ISt):ICall prog gl 190 [.sl t [],.fn (.func g) [] []] st (λr st'=>r=.tup []/\st'=st):=by
 obtain⟨fs,c,es⟩:=t;obtain rfl:c=.nil:=ht;intro B X rs hg hst hv;obtain⟨r0,r1,rfl⟩:∃r0 r1,rs=[r0,r1]:=by
  match rs,hv with
  | [a,b],_=>exact⟨a,b,rfl⟩
  | [],hv=>cases hv.1
  | [_],hv=>cases hv.1
  | _::_::_::_,hv=>cases hv.1
 obtain⟨p,cap,rfl⟩:∃p cap,r0=.slice p 0 cap:=by
  have:=hv.2 0 r0 _ rfl rfl;obtain⟨a,cap,_,_,rfl,_⟩:=V.sl_inv this;exact⟨a,cap,rfl⟩
 refine Calls.mono (AnyF.slices_SortFunc_none Tryz.sortSL p cap r1 X.w) ?_;rintro e w' ⟨rfl,rfl⟩;exact⟨_,rfl,X,.tup [],rfl,hg,Ext.refl X,.tup [] [] rfl (λi r c h=>by simp at h),rfl,hst⟩
theorem xZ8 (p q:ByteArray×Nat):zQf q p = - zQf p q:=by
 unfold zQf;rw[(yJ5 p.1).neg q.1,(yYx p.2).neg q.2,yWs]
theorem wWu {p q:ByteArray×Nat}(h:zQf p q=0):p=q:=by
 obtain⟨h1,h2⟩:=yKz.1 h;exact Prod.ext (((yJ5 p.1).eq q.1).1 h1) (((yYx p.2).eq q.2).1 h2)
theorem wJg (p:ByteArray×Nat):¬ zQf p p<0:=by
 have:=xZ8 p p;omega
theorem xWu {p q r:ByteArray×Nat}(h:zQf p q<0)(k:zQf q r<0):zQf p r<0 :=
 zWe ((yJ5 p.1).tr q.1 r.1) (λe=>by rw[((yJ5 p.1).eq q.1).1 e]) (λe=>by rw[((yJ5 q.1).eq r.1).1 e]) ((yYx p.2).tr q.2 r.2) h k
end Go.Proofs.Tryz
namespace Go.Proofs.Tryz
open Go Go.Iv Go.Sort Go.Shelf Go.RowKit
set_option maxRecDepth 4000
variable (gl:Nat->Option IV)
theorem xUa (g:FuncId)(caps:List IV)(ents:Array MapEntry)(hE:∀e∈ents.toList,∃s n,keyI e.key=some (.agg [.raw (.string s),.raw (.int .i64 n)]))(hlen:ents.toList.length<=1000000000)(st:ISt)(he:entI prog g=true)(Base:ISt->Prop)(hB:Base st)
  (hi:xKc prog gl g [] caps (zZ2 (symH ents)) [] (finH ents) (λ_=>Base) noUp) :
  ICall prog gl 189 [.fn (.func g) [] caps] st (λr st'=>(∃h,finH ents h/\wY6 st h r st')/\subSt st st'):=by
 have hA:=λf es=>xZr gl g caps ents hE hlen st he Base hB hi f es;refine iI func189 ?_;simp only[go_sem,zA,reduceCtorEq];refine (hA _ _).mono ?_;rintro r st' h;have hci:ivOf (.iv r)=some r:=by
  obtain⟨⟨_,_,xs,_,⟨_,f,e,rfl⟩|⟨g,cap,cs,_,_,rfl,_⟩⟩,_⟩:=h<;>rfl
 simp only[go_sem,hci];exact yQ0 h
theorem wK9 (g:FuncId)(caps:List IV)(ents:Array MapEntry)(hE:∀e∈ents.toList,∃s n,keyI e.key=some (.agg [.raw (.string s),.raw (.int .i64 n)]))(hN:∀e∈ents.toList,∀x,keyI e.key=some x->vYn x)(hlen:ents.toList.length<=1000000000)(st:ISt)(he:entI prog g=true)(Base:ISt->Prop)(hB:Base st)
  (hi:xKc prog gl g [] caps (zZ2 (symH ents)) [] (finH ents) (λ_=>Base) noUp) :
  ICall prog gl 139 [.fn (.func g) [] caps,.fn (.func 141) [] []] st (λr st'=>(∃h,finH ents h/\wY6 st h r st')/\subSt st st'):=by
 have hA:=xUa gl g caps ents hE hlen st he Base hB hi;refine iI func139 ?_;simp only[go_sem,zA,reduceCtorEq];refine hA.mono ?_;rintro r st1 ⟨⟨hs,hfin,xs,hxl,h⟩,hsub⟩;rcases h with⟨h0,f,e,rfl⟩|⟨b,cap,cs,h0,hbn,rfl,hb,hkc,hcc,htk⟩
 ·simp only[go_sem,zE,zA];refine (xU4 gl _ rfl _ _).mono ?_;rintro _ st1 ⟨rfl,rfl⟩;simp only[go_sem,zE];exact yQ0 ⟨⟨hs,hfin,xs,hxl,.inl ⟨h0,f,e,rfl⟩⟩,hsub⟩
 ·have hg:∀x∈xs,vYn x:=λx hx=>by
   obtain⟨e,he,rfl⟩:=List.mem_map.1 (hxl.mem_iff.1 hx);have hem:=hfin.2.2 e he;obtain⟨s,n,hk⟩:=hE e hem;exact hN e hem _ (by unfold keyD;rw[hk];rfl)
  have hcs:cs=xs.flatMap IV.cells++cs.drop (hs.length*2):=by rw[<- htk,List.take_append_drop]
  have hS:=xKa gl 141 (enters_of func141 (by kernel_rfl) rfl) xs (cs.drop (hs.length*2)) b cap st1 (λh=>by subst h;exact h0 (by simpa using hxl.length_eq.symm)) (by have:=hxl.length_eq;rw[List.length_map,hfin.1] at this;omega) (λx hx=>by
    obtain⟨s,n,rfl⟩:=hg x hx;rfl) (by rw[<- hcs];exact hb) (λx y=>zQf (rdS x) (rdS y)) (λx _=>wJg _) (λx _ y _ z _=>xWu) (λx _ y _ z _ h1 h2 h3=>by
    rcases Int.lt_or_le (zQf (rdS y) (rdS x)) 0 with h|h
    ·exact h2 (xWu h h3)
    ·have hxy:zQf (rdS x) (rdS y)=0:=by
      have:=xZ8 (rdS x) (rdS y);omega
     rw[wWu hxy] at h3;exact h2 h3) (λx hxm y hym=>by
    obtain⟨s,n,rfl⟩:=hg x hxm;obtain⟨t,m,rfl⟩:=hg y hym;exact (wKt (λ_=>none) s t n m _).mono λr st' h=>h.1)
  rw[show xs.length=hs.length by rw[hxl.length_eq,List.length_map]] at hS;simp only[go_sem,zE,zA];refine hS.mono ?_;rintro _ _ ⟨rfl,ys,hp,_,rfl⟩;simp only[go_sem,zE];refine yQ0 ⟨⟨hs,hfin,ys,hp.trans hxl,.inr ⟨b,cap,_,h0,hbn,rfl,ISt.put_same ..,hkc,?_,?_⟩⟩,λc o hc=>?_⟩
  ·have hl:=congrArg List.length hcs;rw[lLa] at hl;rw[lLa,(hp.flatMap_right IV.cells).length_eq];omega
  ·rw[List.take_left'];rw[(hp.flatMap_right IV.cells).length_eq];have:=congrArg List.length htk;rw[List.length_take] at this;omega
  ·rw[yQ5 (by rintro rfl;rw[hbn] at hc;cases hc)];exact hsub _ _ hc
end Go.Proofs.Tryz
namespace Go.Proofs.Tryz
open Go Go.Iv
set_option maxRecDepth 4000
variable (gl:Nat->Option IV)
theorem xKl {key:Value}{y:IV}{p:Value×IV}:∀ {es:List (Value×IV)},p∈updI key y es->p.1=key\/p∈es
 | [],h=>by
  simp only[updI,List.mem_singleton] at h;subst h;exact .inl rfl
 | (k,x)::es,h=>by
  unfold updI at h;split at h
  ·rcases List.mem_cons.1 h with rfl|h
   ·exact .inl rfl
   ·exact .inr (List.mem_cons_of_mem _ h)
  ·rcases List.mem_cons.1 h with rfl|h
   ·exact .inr (List.mem_cons_self ..)
   ·exact (xKl h).imp id λh=>List.mem_cons_of_mem _ h
theorem xKm {key:Value}{y:IV}:∀ {es:List (Value×IV)},(updI key y es).length<=es.length+1
 | []=>by simp[updI]
 | (k,x)::es=>by
  have:=xKm (key:=key) (y:=y) (es:=es);unfold updI;split<;>simp<;>omega
def symIn (l:List Fm)(s:ByteArray)(n:Nat):Prop:=∃us sub,Fm.mk 1 s us sub∈l/\us.length=n
structure SymMapX (l:List Fm)(es:List (Value×IV)):Prop where
 len:es.length<=l.length
 key:∀p∈es,∃(s:ByteArray) (n:Nat),p.1=.agg #[.string s,.int .i64 (n:Int)]/\s.size<=1000000000/\symIn l s n
 cov:∀s n,symIn l s n->∃p∈es,p.1=.agg #[.string s,.int .i64 (n:Int)]
structure SymsX (l:List Fm)(ys:List IV):Prop where
 len:ys.length<=l.length
 key:∀y∈ys,∃(s:ByteArray) (n:Nat),y=.agg [.raw (.string s),.raw (.int .i64 (n:Int))]/\s.size<=1000000000/\symIn l s n
 cov:∀s n,symIn l s n->(.agg [.raw (.string s),.raw (.int .i64 (n:Int))]:IV)∈ys
theorem symIn.app {l m:List Fm}{s:ByteArray}{n:Nat}(h:symIn l s n):symIn (l++m) s n:=by
 obtain⟨us,sub,h1,h2⟩:=h;exact⟨us,sub,List.mem_append_left _ h1,h2⟩
def symV (s:ByteArray)(n:Nat):Value:=.agg #[.string s,.int .i64 (n:Int)]
theorem xKn {s:ByteArray}{n:Nat}{y:IV}:∀ {es:List (Value×IV)},(∀p∈es,∃s n,p.1=symV s n)->(∃p∈updI (symV s n) y es,p.1=symV s n)/\∀q∈es,∃p∈updI (symV s n) y es,p.1=q.1
 | [],_=>⟨⟨_,by simp only[updI];exact List.mem_singleton.2 rfl,rfl⟩,nofun⟩
 | (k,x)::es,h=>by
  have ih:=xKn (s:=s) (n:=n) (y:=y) (es:=es) λp hp=>h p (List.mem_cons_of_mem _ hp);obtain⟨s',n',hk'⟩:=h _ (List.mem_cons_self ..);simp only at hk';unfold updI;split
  ·rename_i hk;have hk:symV s n=k:=by
    rw[hk'] at hk ⊢;simp[yKk,xUx,symV] at hk;obtain⟨h1,h2⟩:=hk;subst h1;have h3:n=n':=by omega
    rw[h3]
   exact⟨⟨_,List.mem_cons_self ..,rfl⟩,λq hq=>by
    rcases List.mem_cons.1 hq with rfl|hq
    ·exact⟨_,List.mem_cons_self ..,hk⟩
    ·exact⟨q,List.mem_cons_of_mem _ hq,rfl⟩⟩
  ·obtain⟨⟨p,h1,h2⟩,h3⟩:=ih;exact⟨⟨p,List.mem_cons_of_mem _ h1,h2⟩,λq hq=>by
    rcases List.mem_cons.1 hq with rfl|hq
    ·exact⟨_,List.mem_cons_self ..,rfl⟩
    ·obtain⟨p,h4,h5⟩:=h3 q hq;exact⟨p,List.mem_cons_of_mem _ h4,h5⟩⟩
theorem SymMapX.upd {l:List Fm}{es:List (Value×IV)}(h:SymMapX l es){s:ByteArray}{us:List Tm}{sub:List Fm}(hs:s.size<=1000000000)(y:IV):SymMapX (l++[.mk 1 s us sub]) (updI (.agg #[.string s,.int .i64 (us.length:Int)]) y es) :=
 ⟨by have:=xKm (key:=.agg #[.string s,.int .i64 (us.length:Int)]) (y:=y) (es:=es);have:=h.len;rw[lLa,List.length_singleton];omega,λp hp=>by
  rcases xKl hp with h1|h1
  ·exact⟨s,us.length,h1,hs,us,sub,by simp,rfl⟩
  ·obtain⟨s',n,h2,h3,h4⟩:=h.key p h1;exact⟨s',n,h2,h3,h4.app⟩,λs' n hn=>by
  obtain⟨us',sub',h1,h2⟩:=hn;have hk:=xKn (s:=s) (n:=us.length) (y:=y) (es:=es) λp hp=>by obtain⟨s,n,h,_⟩:=h.key p hp;exact⟨s,n,h⟩
  rcases List.mem_append.1 h1 with h1|h1
  ·obtain⟨q,hq,hq1⟩:=h.cov s' n ⟨us',sub',h1,h2⟩;obtain⟨p,hp,hp1⟩:=hk.2 q hq;exact⟨p,hp,hp1.trans hq1⟩
  ·simp only[List.mem_singleton,Fm.mk.injEq,true_and] at h1;obtain⟨rfl,rfl,rfl⟩:=h1;rw[<- h2];exact hk.1⟩
theorem SymMapX.skip {l:List Fm}{es:List (Value×IV)}(h:SymMapX l es){o:Nat}{s:ByteArray}{us:List Tm}{sub:List Fm}(ho:¬ o=1):SymMapX (l++[.mk o s us sub]) es :=
 ⟨by have:=h.len;rw[lLa];omega,λp hp=>by
  obtain⟨s',n,h2,h3,h4⟩:=h.key p hp;exact⟨s',n,h2,h3,h4.app⟩,λs' n hn=>by
  obtain⟨us',sub',h1,h2⟩:=hn;rcases List.mem_append.1 h1 with h1|h1
  ·exact h.cov s' n ⟨us',sub',h1,h2⟩
  ·simp only[List.mem_singleton,Fm.mk.injEq] at h1;exact (ho h1.1.symm).elim⟩
theorem wQ7 (l:List Fm)(hK:l.length<=1000000000)(m:Nat)(es:List (Value×IV))(hes:SymMapX l es)(st:ISt)(hm:st m=some (.map .sym es)) :
  ICall prog gl 114 [.raw (.map (some m))] st (λr st'=>∃t ys o,r=.sl t ys/\okEs t 2/\SymsX l ys/\st'=st.put m o):=by
 refine ICall.mapx hm λents clock ⟨g1,g2,g3,g4,_⟩=>?_;have hN:ents.toList.length=es.length:=by have:=congrArg List.length g1;simpa using this
 have hkey:∀e∈ents.toList,∃(s:ByteArray) (n:Nat),keyI e.key=some (.agg [.raw (.string s),.raw (.int .i64 (n:Int))])/\s.size<=1000000000/\symIn l s n/\e.key=.agg #[.string s,.int .i64 (n:Int)]:=λe he=>by
  have h1:e.key∈es.map (·.1):=g1▸List.mem_map_of_mem he;obtain⟨p,hp,hq⟩:=List.mem_map.1 h1;obtain⟨s,n,h2,h3,h4⟩:=hes.2 p hp;refine⟨s,n,?_,h3,h4,by rw[<- hq,h2]⟩;rw[<- hq,h2];simp[keyI,show s.size<=281474976710656 by omega]
 have hE:EntOk ents clock:=⟨λe he=>by obtain⟨s,n,h,_⟩:=hkey e he;exact⟨s,n,h⟩,g3,by
  have hp:(ents.toList.map (·.born)).Pairwise (·<·):=List.pairwise_map.2 g4;exact hp.imp λh=>Nat.ne_of_lt h⟩
 have hsyms:∀(h:List MapEntry) (xs:List IV),finH ents h->xs.Perm (h.map keyD)->SymsX l xs:=λh xs h1 h2=>⟨by rw[h2.length_eq,List.length_map,h1.1,hN];exact hes.1,λy hy=>by
  obtain⟨e,he,rfl⟩:=List.mem_map.1 (h2.mem_iff.1 hy);obtain⟨s,n,h3,h5,h4,_⟩:=hkey e (h1.2.2 e he);exact⟨s,n,by unfold keyD;rw[h3];rfl,h5,h4⟩,λs n hs=>by
  obtain⟨p,hp,hp1⟩:=hes.3 s n hs;have hm:p.1∈ents.toList.map (·.key):=g1▸List.mem_map_of_mem hp;obtain⟨e,he,hk⟩:=List.mem_map.1 hm;obtain⟨s',n',h3,_,_,h4⟩:=hkey e he;rw[hk,hp1] at h4;simp only[Value.agg.injEq] at h4;have h4':=congrArg Array.toList h4;simp at h4';refine h2.mem_iff.2 (List.mem_map.2 ⟨e,h1.2.1 e he,?_⟩);unfold keyD;rw[h3,<- h4'.1,<- h4'.2];rfl⟩
 refine ICall.fix1 ?_;generalize hS:st.put m (some (.mapx ents clock))=S;have hSm:S m=some (.mapx ents clock):=by rw[<- hS];exact ISt.put_same ..
 have hKk:=λst=>vZo gl m st;have hSo:=λb st hB=>wK9 gl 191 [.raw (.pointer (some ⟨b,0,none⟩))] ents hE.key (λe he x hx=>by
  obtain⟨s,n,h3,h4,_⟩:=hkey e he;rw[h3] at hx;exact⟨s,n,(Option.some.inj hx).symm⟩) (by rw[hN];have:=hes.1;omega) st (by simp only[go_sem]) (λst=>st b=some (.box [.raw (.map (some m))])/\st m=some (.mapx ents clock)) hB (wYa gl m b clock ents hE)
 refine iI func114 ?_;simp only[go_sem,zA,reduceCtorEq];refine (hKk _).mono ?_;rintro _ _ ⟨b,hb,rfl,rfl⟩;simp only[go_sem,zA,wG6];refine (hSo b _ ⟨ISt.put_same ..,by rw[yQ5 (yXt hSm hb)];exact hSm⟩).mono ?_;rintro r st' ⟨⟨hs,hfin,xs,hxl,h⟩,hsub⟩;have hsub2:=(yQa (o:=some (.box [.raw (.map (some m))])) hb).trans hsub;rcases h with⟨h0,f,e,rfl⟩|⟨g,cap,cs,h0,hgn,rfl,hg,hkc,hcc,htk⟩
 ·simp only[go_sem];refine yQf hsub2 (.inl ⟨_,[],some (.mapx ents clock),rfl,.inl rfl,hsyms hs _ hfin (by rw[h0];exact .nil),hS.symm⟩)
 ·have hgb:g≠b:=by rintro rfl;rw[ISt.put_same] at hgn;cases hgn
  rw[yQ5 hgb] at hgn;simp only[go_sem];refine yQf (st':=S.put g (some (.box cs))) (λc o hc=>?_) (.inr ⟨g,_,cap,cs,2,xs,hgn,rfl,rfl,by rw[hxl.length_eq,List.length_map],by rw[hfin.1,hN];have:=hes.1;omega,hkc,hcc,htk,λz hz=>?_,_,xs,some (.mapx ents clock),rfl,.inr rfl,hsyms hs xs hfin hxl,hS.symm⟩)
  ·rw[ISt.put_apply] at hc;split at hc
   ·rename_i hcg;rw[hcg,hg];exact hc
   ·exact hsub2 _ _ hc
  ·obtain⟨_,h9,_⟩:=hsyms hs xs hfin hxl;obtain⟨s,n,rfl,_⟩:=h9 z hz;rfl
theorem xZn (f:Fm)(x:IV)(hx:IsFm f x)(hl:(yZf f).length<=1000000000)(hp:∀o n us sub,Fm.mk o n us sub∈yZf f->n.size<=1000000000/\us.length<=1000000)(st:ISt) :
  ICall prog gl 84 [x] st (λr st'=>∃t ys,r=.sl t ys/\okEs t 2/\SymsX (yZf f) ys/\st'=st):=by
 have hw:=λst=>wYg gl x st f hx;have hw1:=λI=>xUg gl f x hx I;have hSo:=λm es hes st hm=>wQ7 gl (yZf f) hl m es hes st hm;obtain⟨o1,n1,t1,x1,t2,x2,rfl⟩:=hx.agg;refine ICall.intro (c:=cf prog gl [3] []) func84 rfl (by show _<=21;simp) (by kernel_rfl) ?_;simp only[go_sem,zE,zA,zL];refine λm=>yQ8 λhm=>λb=>yQ8 λhb=>?_;have hbm:b≠m:=by rintro rfl;rw[ISt.put_same] at hb;cases hb
 rw[yQ5 hbm] at hb;refine (hw _).mono ?_;rintro _ _ ⟨rfl,rfl⟩;simp only[go_sem,reduceCtorEq];refine RangeC.intro (wVm f) (yZf f).length (λk st'=>∃es,SymMapX ((yZf f).take k) es/\st'=(st.put m (some (.map .sym es))).put b (some (.box [.raw (.map (some m))]))) (λ_ _=>False) (by simp only[go_sem]) ?_ ?_ ?_ (hw1 _) ?_ (λ_ _ _ h=>h.elim)
 ·rintro k a ⟨_,_,_,_,rfl⟩;rfl
 ·exact⟨[],⟨Nat.zero_le _,nofun,λs n h=>by obtain⟨us,sub,h,_⟩:=h;simp at h⟩,yQ9 ..⟩
 ·rintro k a _ ⟨z,x,hz,hzx,rfl⟩ ⟨es,hes,rfl⟩;obtain⟨o,nm,us,sub⟩:=z;have hpz:=hp o nm us sub (lMg hz);obtain⟨tg,xs,tg',ys,rfl,hop,htg,hxs,htg',hys⟩:=hzx.mk;have hmm:((st.put m (some (.map .sym es))).put b (some (.box [.raw (.map (some m))]))) m=some (.map .sym es):=by rw[yQ5 (λh=>hbm h.symm),ISt.put_same]
  by_cases h1:o=1
  ·subst h1;simp only[go_sem,zE,zA,zL,fits,ISt.put_same,hmm,hxs.len,show decide (((1:Nat):Int)=1)=true from rfl];intro hl;refine yQ8 λhs=>?_;unfold chk;refine⟨by rw[dEt hs,dEt (show (-9223372036854775808:Int)<=us.length by omega),dEt (show ((us.length:Nat):Int)<=9223372036854775807 by omega)];rfl,_,by rw[yQ7 hz];exact hes.upd hpz.1 (.raw (.bool true)),?_⟩;funext c;simp only[ISt.put_apply];by_cases h1:c=m
   ·rw[if_pos h1,if_neg (λh=>hbm (by rw[<- h,h1])),if_pos h1]
   ·rw[if_neg h1,if_neg h1,if_neg h1]
  ·simp only[go_sem,zE,zA,zL,show decide (((o:Nat):Int)=1)=false from dEf (by omega)];exact⟨es,by rw[yQ7 hz];exact hes.skip h1,rfl⟩
 ·rintro _ r ⟨es,hes,rfl⟩;rw[lTl] at hes;have hmm:((st.put m (some (.map .sym es))).put b (some (.box [.raw (.map (some m))]))) m=some (.map .sym es):=by rw[yQ5 (λh=>hbm h.symm),ISt.put_same]
  simp only[go_sem,zE,zA,ISt.put_same];refine (hSo m es hes _ hmm).mono ?_;rintro _ _ ⟨t,ys,o,rfl,ht,hys,rfl⟩;simp only[go_sem];refine yQf (st':=st) (λc o' hc=>?_) ⟨t,ys,rfl,ht,hys,rfl⟩;rw[yQ5 (by rintro rfl;rw[hm] at hc;cases hc),yQ5 (by rintro rfl;rw[hb] at hc;cases hc),yQ5 (by rintro rfl;rw[hm] at hc;cases hc)];exact hc
mutual
def wTm:Tm->Nat
 | .mk _ n us=>1+n.size / 20+wTms us
def wTms:List Tm->Nat
 | []=>0
 | a::l=>wTm a+wTms l
end
mutual
def wFm:Fm->Nat
 | .mk _ n us sub=>1+n.size / 20+wTms us+wFms sub
def wFms:List Fm->Nat
 | []=>0
 | a::l=>wFm a+wFms l
end
theorem yGy:∀l m:List Tm,wTms (l++m)=wTms l+wTms m
 | [],m=>by simp[wTms]
 | a::l,m=>by simp only[List.cons_append,wTms,yGy l m];omega
theorem xUi {l:List Tm}{k:Nat}{a:Tm}(h:l[k]?=some a):wTms (l.take (k+1))=wTms (l.take k)+wTm a:=by
 rw[yQ7 h,yGy];simp[wTms]
theorem xUj (l:List Tm)(k:Nat):wTms (l.take k)<=wTms l:=by
 conv=>rhs;rw[<- List.take_append_drop k l]
 rw[yGy];omega
theorem yWf:∀l m:List Fm,wFms (l++m)=wFms l+wFms m
 | [],m=>by simp[wFms]
 | a::l,m=>by simp only[List.cons_append,wFms,yWf l m];omega
theorem xUk {l:List Fm}{k:Nat}{a:Fm}(h:l[k]?=some a):wFms (l.take (k+1))=wFms (l.take k)+wFm a:=by
 rw[yQ7 h,yWf];simp[wFms]
theorem xUl (l:List Fm)(k:Nat):wFms (l.take k)<=wFms l:=by
 conv=>rhs;rw[<- List.take_append_drop k l]
 rw[yWf];omega
def Sum (w:Nat)(lim:Int)(r:IV):Prop:=∃n:Nat,r=.raw (.int .i64 n)/\n<=w/\((n:Int)<=lim->n=w)
def tC (us:List Tm):Prop:=∀(t:Tag) (xs:List IV) (_:okEs t 3) (_:IsTms us xs) (lim:Int) (_:-1<=lim/\lim<=1000) (_:wTms us<=1099511627776) (st:ISt),
 ICall prog gl 66 [.sl t xs,.raw (.int .i64 lim)] st (λr st'=>Sum (wTms us) lim r/\st'=st)
theorem xXs (us:List Tm)(IH:∀v n l,Tm.mk v n l∈us->tC gl l):tC gl us:=by
 intro t xs ht hx lim hlim hw st;refine iI func66 ?_;simp only[go_sem];refine LoopC.ctr us.length (λk fr st' ds=>(∃n:Nat,fr 5=.iv (.raw (.int .i64 n))/\n<=wTms (us.take k)/\((n:Int)<=lim->n=wTms (us.take k)))/\fr 0=.iv (.sl t xs)/\fr 1=.iv (.raw (.int .i64 lim))/\fr 6=.iv (.raw (.int .i64 k))/\st'=st/\ds=[]) ?_ ?_ ?_
 ·simp only[go_sem,zE,reduceCtorEq];exact⟨⟨0,rfl,Nat.le_refl _,λ_=>rfl⟩,rfl⟩
 ·rintro k fr st1 _ hlt ⟨⟨n,f5,hn1,hn2⟩,f0,f1,f6,rfl,rfl⟩;obtain⟨a,ha⟩:=yQ1 hlt;obtain⟨x,hkx,hxa⟩:=hx.get ha;obtain⟨v2,n2,l2⟩:=a;obtain⟨tx,cx,rfl,htx,hcx⟩:=hxa.mk;have hwt:=xUi ha;have hwl:=xUj us (k+1);have hwk:=xUj us k;simp only[wTm] at hwt;by_cases hle:(n:Int)<=lim
  ·have hnk:=hn2 hle;have hcall:=λst=>IH _ _ _ (lMg ha) tx cx htx hcx (lim-n-1) ⟨by omega,by omega⟩ (by omega) st;have hq:IntKind.i64.wrap (((n2.size:Nat):Int).tdiv 20)=((n2.size / 20:Nat):Int):=by
    have:((n2.size:Nat):Int).tdiv 20=((n2.size / 20:Nat):Int):=rfl;rw[this,w64 (by omega) (by omega)]
   have hz:¬ ((20:Int)=0):=by decide
   generalize n2.size / 20=q at hq hwt;have w1:IntKind.i64.wrap (1+((q:Nat):Int))=((1+q:Nat):Int):=by rw[w64]<;>omega
   have w2:IntKind.i64.wrap (IntKind.i64.wrap (lim-(n:Int))-1)=lim-n-1:=by rw[w64 (n:=lim-n) (by omega) (by omega),w64 (by omega) (by omega)]
   simp only[go_sem,zE,zA,reduceCtorEq,f0,f1,f5,f6,hx.len,lt_i hlt,dEt hle,yQ3 ht,iNn,hkx,fits,hq,hz,w1,w2];intro _;refine (hcall _).mono ?_;rintro _ st2 ⟨⟨m,rfl,hm1,hm2⟩,rfl⟩;have w3:IntKind.i64.wrap (((1+q:Nat):Int)+(m:Int))=((1+q+m:Nat):Int):=by rw[w64]<;>omega
   have w4:IntKind.i64.wrap ((n:Int)+((1+q+m:Nat):Int))=((n+(1+q+m):Nat):Int):=by rw[w64]<;>omega
   simp only[go_sem,zE,reduceCtorEq,f0,f1,f6,w3,w4,yQc hlt (show us.length<=281474976710656 by omega)];exact⟨n+(1+q+m),rfl,by omega,λh=>by have:=hm2 (by omega);omega⟩
  ·simp only[go_sem,zE,reduceCtorEq,f0,f1,f5,f6,hx.len,lt_i hlt,dEf hle];intro _;exact yQ0 ⟨⟨n,rfl,by omega,λh=>absurd h hle⟩,rfl⟩
 ·rintro fr st1 _ ⟨⟨n,f5,hn1,hn2⟩,f0,f1,f6,rfl,rfl⟩;rw[lTl] at hn1 hn2;simp only[go_sem,zE,reduceCtorEq,f0,f5,f6,hx.len,yQi (nLi _)];intro _;exact yQ0 ⟨⟨n,rfl,hn1,hn2⟩,rfl⟩
theorem zVy:∀(k:Nat)(us:List Tm),SizeOf.sizeOf us<k->tC gl us
 | 0,f,h=>by omega
 | k+1,us,h=>xXs gl us (λv n l ha=>zVy k l (by
   have:=lSm ha;simp at this;omega))
theorem wVe (us:List Tm):tC gl us:=zVy gl _ us (Nat.lt_succ_self _)
def zC (us:List Fm):Prop:=∀(t:Tag) (xs:List IV) (_:okEs t 4) (_:IsFms us xs) (lim:Int) (_:-1<=lim/\lim<=1000) (_:wFms us<=1099511627776) (st:ISt),
 ICall prog gl 35 [.sl t xs,.raw (.int .i64 lim)] st (λr st'=>Sum (wFms us) lim r/\st'=st)
theorem xYw (us:List Fm)(IH:∀o n l m,Fm.mk o n l m∈us->zC gl m):zC gl us:=by
 intro t xs ht hx lim hlim hw st;refine ICall.intro (c:=cf prog gl [] [(5,[0,1,2,3,4,5,6,7,8,9,10,11,12,13,14,15,16,19,20,21,22,23,24,25,26,27,17,18,28,29,30,31])]) func35 rfl (by show _<=50;simp) (by kernel_rfl) ?_;simp only[go_sem];refine LoopC.ctr us.length (λk fr st' ds=>(∃n:Nat,fr 5=.iv (.raw (.int .i64 n))/\n<=wFms (us.take k)/\((n:Int)<=lim->n=wFms (us.take k)))/\fr 0=.iv (.sl t xs)/\fr 1=.iv (.raw (.int .i64 lim))/\fr 6=.iv (.raw (.int .i64 k))/\st'=st/\ds=[]) ?_ ?_ ?_
 ·simp only[go_sem,zE,reduceCtorEq];exact⟨⟨0,rfl,Nat.le_refl _,λ_=>rfl⟩,rfl⟩
 ·rintro k fr st1 _ hlt ⟨⟨n,f5,hn1,hn2⟩,f0,f1,f6,rfl,rfl⟩;obtain⟨a,ha⟩:=yQ1 hlt;obtain⟨x,hkx,hxa⟩:=hx.get ha;obtain⟨o2,n2,l2,m2⟩:=a;obtain⟨tx,cx,ty,cy,rfl,_,htx,hcx,hty,hcy⟩:=hxa.mk;have hwt:=xUk ha;have hwl:=xUl us (k+1);have hwk:=xUl us k;simp only[wFm] at hwt;by_cases hle:(n:Int)<=lim
  ·have hnk:=hn2 hle;have hcall:=λst=>IH _ _ _ _ (lMg ha) ty cy hty hcy (lim-n-1) ⟨by omega,by omega⟩ (by omega) st;have hterm:=λst=>wVe gl l2 tx cx htx hcx (lim-n) ⟨by omega,by omega⟩ (by omega) st;have hq:IntKind.i64.wrap (((n2.size:Nat):Int).tdiv 20)=((n2.size / 20:Nat):Int):=by
    have:((n2.size:Nat):Int).tdiv 20=((n2.size / 20:Nat):Int):=rfl;rw[this,w64 (by omega) (by omega)]
   have hz:¬ ((20:Int)=0):=by decide
   generalize n2.size / 20=q at hq hwt;have w1:IntKind.i64.wrap (1+((q:Nat):Int))=((1+q:Nat):Int):=by rw[w64]<;>omega
   have w0:IntKind.i64.wrap (lim-(n:Int))=lim-n:=w64 (by omega) (by omega);have w2:IntKind.i64.wrap (lim-(n:Int)-1)=lim-n-1:=w64 (by omega) (by omega);simp only[go_sem,zE,zA,reduceCtorEq,f0,f1,f5,f6,hx.len,lt_i hlt,dEt hle,yQ3 ht,iNn,hkx,fits,hq,hz,w1,w0,w2];intro _;refine (hterm _).mono ?_;rintro _ st2 ⟨⟨m1,rfl,hm1,hm1'⟩,rfl⟩;have w3:IntKind.i64.wrap (((1+q:Nat):Int)+(m1:Int))=((1+q+m1:Nat):Int):=by rw[w64]<;>omega
   simp only[go_sem,zE,zA,w3];refine (hcall _).mono ?_;rintro _ st2 ⟨⟨m,rfl,hm,hm'⟩,rfl⟩;have w4:IntKind.i64.wrap (((1+q+m1:Nat):Int)+(m:Int))=((1+q+m1+m:Nat):Int):=by rw[w64]<;>omega
   have w5:IntKind.i64.wrap ((n:Int)+((1+q+m1+m:Nat):Int))=((n+(1+q+m1+m):Nat):Int):=by rw[w64]<;>omega
   simp only[go_sem,zE,reduceCtorEq,f0,f1,f6,w4,w5,yQc hlt (show us.length<=281474976710656 by omega)];exact⟨n+(1+q+m1+m),rfl,by omega,λh=>by have:=hm1' (by omega);have:=hm' (by omega);omega⟩
  ·simp only[go_sem,zE,reduceCtorEq,f0,f1,f5,f6,hx.len,lt_i hlt,dEf hle];intro _;exact yQ0 ⟨⟨n,rfl,by omega,λh=>absurd h hle⟩,rfl⟩
 ·rintro fr st1 _ ⟨⟨n,f5,hn1,hn2⟩,f0,f1,f6,rfl,rfl⟩;rw[lTl] at hn1 hn2;simp only[go_sem,zE,reduceCtorEq,f0,f5,f6,hx.len,yQi (nLi _)];intro _;exact yQ0 ⟨⟨n,rfl,hn1,hn2⟩,rfl⟩
theorem xQ0:∀(k:Nat)(us:List Fm),SizeOf.sizeOf us<k->zC gl us
 | 0,f,h=>by omega
 | k+1,us,h=>xYw gl us (λo n l m ha=>xQ0 k m (by
   have:=lSm ha;simp at this;omega))
theorem wQu (us:List Fm):zC gl us:=xQ0 gl _ us (Nat.lt_succ_self _)
theorem kQi (s:Sq)(x:IV)(hx:IsSq s x)(hw:wFms s.l<=1099511627776/\wFms s.r<=1099511627776)(st:ISt):ICall prog gl 11 [x] st (λr st'=>(r=.raw (.bool (decide (wFms s.l+wFms s.r<=300))))/\st'=st):=by
 obtain⟨t1,x1,t2,x2,rfl,e1,i1,e2,i2⟩:=hx;have h1:=λst=>wQu gl s.l t1 x1 e1 i1 300 ⟨by omega,by omega⟩ hw.1 st;have h2:=λst=>wQu gl s.r t2 x2 e2 i2 300 ⟨by omega,by omega⟩ hw.2 st;refine ICall.intro (c:=cf prog gl [] [(1,[0,1,3,4,2,5,6,7,8])]) func11 rfl (by show _<=11;simp) (by kernel_rfl) ?_;simp only[go_sem,zE,zA];refine (h1 _).mono ?_;rintro _ st2 ⟨⟨n,rfl,hn1,hn2⟩,rfl⟩;simp only[go_sem,zE,zA];refine (h2 _).mono ?_;rintro _ st2 ⟨⟨m,rfl,hm1,hm2⟩,rfl⟩;have w:IntKind.i64.wrap ((n:Int)+(m:Int))=((n+m:Nat):Int):=by rw[w64]<;>omega
 have hd:decide (((n+m:Nat):Int)<=300)=decide (wFms s.l+wFms s.r<=300):=by
  rw[decide_eq_decide];constructor
  ·intro h;have:=hn2 (by omega);have:=hm2 (by omega);omega
  ·intro h;omega
 simp only[go_sem,zE,w,hd];exact yQ0 ⟨rfl,rfl⟩
