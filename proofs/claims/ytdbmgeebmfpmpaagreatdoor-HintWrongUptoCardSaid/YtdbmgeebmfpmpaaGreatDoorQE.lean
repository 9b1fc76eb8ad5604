/- Walks: the number of a line in a reach. -/
import Derived.Test.YtdbmgeebmfpmpaaGreatDoorQD
set_option linter.all false
open Nat renaming reduceEqDiff → zE,reduceBEq → zB,reduceAdd → zA,reduceMul → zM,reduceLeDiff → zL
namespace Go.Proofs.Tryz
open Go Go.Iv
set_option maxRecDepth 4000
variable (gl:Nat->Option IV)
theorem zXk:intK prog 21=some .i32:=by kernel_rfl
def IsLk (k:Lk)(x:IV):Prop:=∃p q:Nat,x=.agg [.raw (.int .u8 (k.1:Int)),.raw (.int .u8 (k.2.2.length:Int)),.raw (.int .i32 (k.2.1:Int)),.raw (.int .i32 (p:Int)),.raw (.int .i32 (q:Int))]/\k.2.2=[p,q].take k.2.2.length
def wY9 (l:List Lk)(x:IV):Prop:=∃t ys,x=.sl t ys/\okEs t 5/\AllR IsLk l ys
def numE (lines:List Ln):List (Value×IV):=lines.zipIdx.map λp=>(.string (keyB p.1),.raw (.int .i32 (p.2:Int)))
def zU3 (ln:Ln):Prop:=((∀i∈ln.1,i<16777216)/\∀i∈ln.2,i<16777216)/\ln.1.length<256
structure RS (ca m:Nat)(W:List Fm)(tw:Tag)(xw:List IV)(rb mN:Nat)(S0 st:ISt)(lines:List Ln)(links:List (List Lk)):Prop where
 ex:∃tl xl tk xk,st rb=some (.box [spI ca tw xw m,.sl tl xl,.raw (.map (some mN)),.sl tk xk,.sl ⟨true,.nil,0⟩ []])/\AllR IsLn lines xl/\own st tl lines.length 2 S0/\AllR wY9 links xk/\own st tk links.length 1 S0
 num:st mN=some (.map .str (numE lines))
 sp:SpSt ca m W st
 base:subSt S0 st
 off:S0 rb=none/\S0 mN=none/\S0 m=none
 ok:∀ln∈lines,zU3 ln
 nd:lines.Nodup
def kQa (rb mN m:Nat)(st st':ISt):Prop:=∀b o,st b=some o->b≠rb->b≠mN->b≠m->(∀n,o≠.front n 2)->st' b=some o
theorem wZa (lines:List Ln)(ln:Ln):numE (lines++[ln])=numE lines++[(.string (keyB ln),.raw (.int .i32 (lines.length:Int)))]:=by
 simp[numE,List.zipIdx_append]
theorem xQ5 (lines:List Ln):(numE lines).map (·.1)=lines.map λln=>Value.string (keyB ln):=by
 unfold numE;rw[List.map_map]
 conv=>rhs;rw[<- List.zipIdx_map_fst 0 lines,List.map_map]
 rfl
theorem wVq {lines:List Ln}{n:Nat}{ln:Ln}(h:lines[n]?=some ln):(numE lines)[n]?=some (.string (keyB ln),.raw (.int .i32 (n:Int))):=by
 unfold numE;rw[List.getElem?_map,List.getElem?_zipIdx,h];simp
theorem wYw {a b:Ln}(ha:zU3 a)(hb:zU3 b)(h:keyB a=keyB b):a=b:=wW8 ha.1 hb.1 ⟨ha.2,hb.2⟩ h
theorem wUt {lines:List Ln}(h:∀ln∈lines,zU3 ln)(hn:lines.Nodup):((numE lines).map (·.1)).Nodup:=by
 rw[xQ5];refine List.pairwise_map.2 (List.Pairwise.imp_of_mem (λ{a b} ha hb hab hk=>hab (wYw (h a ha) (h b hb) ?_)) hn);exact Value.string.inj hk
theorem xQ6 (lines:List Ln):∀p∈numE lines,yQy .str p.1=true:=λp hp=>by
 obtain⟨q,_,rfl⟩:=List.mem_map.1 hp;rfl
theorem wZb {lines:List Ln}(h:∀ln∈lines,zU3 ln)(hn:lines.Nodup){n:Nat}{ln:Ln}(hl:lines[n]?=some ln):yXy (.string (keyB ln)) (numE lines)=some (.raw (.int .i32 (n:Int))):=by
 obtain⟨x,h1,h2,_⟩:=zY7 (kk:=.str) (key:=.string (keyB ln)) rfl .junk (numE lines) n (xQ6 lines) (wUt h hn) (by rw[xQ5,List.getElem?_map,hl];rfl);rw[wVq hl] at h1;rw[h2];exact congrArg some (Prod.mk.inj (Option.some.inj h1)).2.symm
theorem wVp {lines:List Ln}{ln:Ln}(h:∀ln∈lines,zU3 ln)(hk:zU3 ln)(hn:ln ∉ lines):yXy (.string (keyB ln)) (numE lines)=none/\updI (.string (keyB ln)) (.raw (.int .i32 (lines.length:Int))) (numE lines)=numE (lines++[ln]):=by
 rw[wZa];refine zY8 (kk:=.str) rfl _ _ (xQ6 lines) λp hp he=>hn ?_;obtain⟨q,hq,rfl⟩:=List.mem_map.1 hp;have hm:q.1∈lines:=by
  have:=List.mem_map_of_mem (f:=Prod.fst) hq
  rwa [List.zipIdx_map_fst] at this
 rwa [<- wYw (h _ hm) hk (Value.string.inj he)]
theorem wGa (ca m:Nat)(W:List Fm)(tw:Tag)(xw:List IV)(rb mN:Nat)(S0 st:ISt)(lines:List Ln)(links:List (List Lk))(hR:RS ca m W tw xw rb mN S0 st lines links)(ln:Ln)(hk:zU3 ln)(hk2:ln.2.length<256)(x:IV)(hx:IsLn ln x)(hll:lines.length<=20000) :
  ICall prog gl 74 [.raw (.pointer (some ⟨rb,0,none⟩)),x] st (λr st' =>
   (∃n:Nat,lines[n]?=some ln/\r=.tup [.raw (.int .i32 (n:Int)),.raw (.int .i64 0)]/\st'=st) \/
   (ln ∉ lines/\((20000<=lines.length/\r=.tup [.raw (.int .i32 0),.raw (.int .i64 4)]/\st'=st) \/
    (lines.length<20000/\r=.tup [.raw (.int .i32 (lines.length:Int)),.raw (.int .i64 0)]/\RS ca m W tw xw rb mN S0 st' (lines++[ln]) links/\kQa rb mN m st st')))):=by
 have hkey:=λst=>uW9 gl ln x hx ⟨by have:=hk.2;omega,by omega⟩ st;obtain⟨t1,t2,rfl,e1,e2⟩:=id hx;obtain⟨tl,xl,tk,xk,hrb,hxl,hol,hxk,hok⟩:=hR.ex;refine ICall.intro (c:=cf prog gl [39,2000042] []) func74 rfl (by show _<=52;simp) (by kernel_rfl) ?_;simp only[go_sem,zE,zA,zL];refine (hkey _).mono ?_;rintro _ st ⟨rfl,rfl⟩;by_cases hm:ln∈lines
 ·obtain⟨n,hn⟩:=List.mem_iff_getElem?.1 hm;have hf:=wZb hR.ok hR.nd hn;simp only[go_sem,zE,reduceCtorEq,hrb,hR.num,hf,zZ2];exact yQ0 (.inl ⟨n,hn,rfl,rfl⟩)
 ·obtain⟨hf,hu⟩:=wVp hR.ok hk hm;have hcv:=λn:Int=>yXz prog 3 21 zVl zXk .i64 n;have hxll:=hxl.1;by_cases hge:20000<=lines.length
  ·simp only[go_sem,zE,reduceCtorEq,hrb,hR.num,hf,yGa,hxll,dEt (show (20000:Int)<=lines.length by omega)];intros;exact yQ0 (.inr ⟨hm,.inl ⟨hge,rfl,rfl⟩⟩)
  ·have hw:IntKind.i32.wrap (lines.length:Int)=(lines.length:Int):=IntWalk.i32_in _ (by omega);simp only[go_sem,zE,zA,zM,zL,reduceCtorEq,hrb,hR.num,hf,yGa,fits,hxll,dEf (show ¬ (20000:Int)<=lines.length by omega),hcv,hw,yQ3];intros;refine yZf hol hxll hR.base rfl (by simp[fits,IV.one]) (by simp only;omega) (by omega) λtl' st2 hol2 hb2 hkeep=>?_;have hrb2:=hkeep rb _ hrb λn h=>by cases h
   have hnum2:=hkeep mN _ hR.num λn h=>by cases h
   obtain⟨es,hes1,hes2⟩:=hR.sp;have hm2:=hkeep m _ hes1 λn h=>by cases h
   have hne1:mN≠rb:=by rintro rfl;rw[hrb2] at hnum2;cases hnum2
   have hne2:m≠rb:=by rintro rfl;rw[hrb2] at hm2;cases hm2
   have hne3:m≠mN:=by rintro rfl;rw[hnum2] at hm2;cases hm2
   simp only[go_sem,zE,zA,zL,reduceCtorEq,hrb2,yQ7 hne1,hnum2,hu];have hst3:∀b o,st2 b=some o->b≠rb->b≠mN->((st2.put rb (some (.box [spI ca tw xw m,.sl tl' (xl++[.agg [.sl t1 (yQj ln.1),.sl t2 (yQj ln.2)]]),.raw (.map (some mN)),.sl tk xk,.sl ⟨true,.nil,0⟩ []]))).put mN (some (.map .str (numE (lines++[ln]))))) b=some o:=λb o h h1 h2=>by
    rw[yQ7 h2,yQ7 h1];exact h
   have hfr:∀g n k,st2 g=some (.front n k)->g≠rb/\g≠mN:=λg n k h=>⟨λh1=>(by rw[h1,hrb2] at h;cases h),λh1=>(by rw[h1,hnum2] at h;cases h)⟩
   refine yQ0 (.inr ⟨hm,.inr ⟨by omega,rfl,⟨⟨tl',_,tk,xk,?_,hxl.snoc hx,?_,hxk,?_⟩,ISt.put_same ..,⟨es,hst3 m _ hm2 hne2 hne3,hes2⟩,yQa (yQa hb2 hR.off.1) hR.off.2.1,hR.off,?_,?_⟩,λb o h h1 h2 h3 h4=>hst3 b o (hkeep b o h h4) h1 h2⟩⟩)
   ·rw[yQ7 λh=>hne1 h.symm,ISt.put_same]
   ·rw[lLa];exact hol2.mono λg hg _=>hst3 g _ hg (hfr g _ _ hg).1 (hfr g _ _ hg).2
   ·exact hok.mono λg hg _=>by
     have h2:=hkeep g _ hg λn h=>by cases h
     exact hst3 g _ h2 (hfr g _ _ h2).1 (hfr g _ _ h2).2
   ·intro a ha;rcases List.mem_append.1 ha with ha|ha
    ·exact hR.ok a ha
    ·rw[List.mem_singleton.1 ha];exact hk
   ·refine List.nodup_append.2 ⟨hR.nd,List.nodup_cons.2 ⟨by simp,List.nodup_nil⟩,λa ha b hb hab=>?_⟩;rw[List.mem_singleton] at hb;rw[hab,hb] at ha;exact hm ha
theorem _root_.Go.Iv.IterU.of {P:Program}{gl:Nat->Option IV}{g:FuncId}{first caps:List IV}{lk:Nat->List IV->ISt->Prop}{len:Nat}{I J:Nat->ISt->Prop}{up:Nat->List (Value×IV)->List (Value×IV)->Prop}(h:IterU P gl g first caps lk len I up)(hIJ:∀k st,J k st->I k st):IterU P gl g first caps lk len J up :=
 λy I' S' st hf hI hu hy h0=>h y I' S' st hf (λk stu hk=>by obtain⟨s,h1,h2⟩:=hI k stu hk;exact⟨s,h1,hIJ k s h2⟩) hu hy h0
def LkOf (lines:List Ln)(v:Mv)(k:Lk):Prop:=k.1=v.1/\k.2.1=v.2.1/\k.2.2.length=v.2.2.length/\∀(q n:Nat),k.2.2[q]?=some n->∃p,lines[n]?=some p/\v.2.2[q]?=some p
theorem LkOf.app {lines more:List Ln}{v:Mv}{k:Lk}(h:LkOf lines v k):LkOf (lines++more) v k :=
 ⟨h.1,h.2.1,h.2.2.1,λq n hq=>by
  obtain⟨p,h1,h2⟩:=h.2.2.2 q n hq;exact⟨p,by rw[List.getElem?_append_left (lGs h1).1];exact h1,h2⟩⟩
def LksOf (lines:List Ln)(vs:List Mv)(l:List Lk):Prop:=l.length=vs.length/\∀(i:Nat) (v:Mv),vs[i]?=some v->∃k,l[i]?=some k/\LkOf lines v k
theorem LksOf.app {lines more:List Ln}{vs:List Mv}{l:List Lk}(h:LksOf lines vs l):LksOf (lines++more) vs l:=⟨h.1,λi v hv=>by
 obtain⟨k,h1,h2⟩:=h.2 i v hv;exact⟨k,h1,h2.app⟩⟩
theorem LksOf.snoc {lines:List Ln}{vs:List Mv}{l:List Lk}{v:Mv}{k:Lk}(h:LksOf lines vs l)(hk:LkOf lines v k):LksOf lines (vs++[v]) (l++[k]):=by
 refine⟨by simp[h.1],λi b hb=>?_⟩;rcases Nat.lt_or_ge i vs.length with hi|hi
 ·rw[List.getElem?_append_left hi] at hb;rw[List.getElem?_append_left (by rw[h.1];exact hi)];exact h.2 i b hb
 ·rw[List.getElem?_append_right hi] at hb;rw[List.getElem?_append_right (by rw[h.1];exact hi),h.1];cases hk':i-vs.length with
  | zero=>rw[hk'] at hb;cases hb;exact⟨k,rfl,hk⟩
  | succ n=>rw[hk'] at hb;simp at hb
def yVh (W:List Fm)(j:Bool)(ln p:Ln):Prop:=∃v:Mv,some v∈mvsN W j ln/\p∈v.2.2
theorem wVv {j:Bool}{ln:Ln}{i:Nat}{t:Tn}{v:Mv}(h:mvN j ln i t=some v):v=(t.1,i,t.2.map (yUx j ln))/\t.2.any (tooN j ln)=false:=by
 unfold mvN at h;cases ha:t.2.any (tooN j ln)
 ·rw[ha] at h;simp at h;exact⟨h.symm,rfl⟩
 ·rw[ha] at h;simp at h
theorem zXd {ca:Nat}{W:List Fm}(hS:SpOk ca W){ln:Ln}(hln:LnOk W ln){v:Mv}(h:some v∈mvsN W (calJ ca) ln):v.2.1<W.length/\v.1<256/\v.2.2.length<=2/\∀p∈v.2.2,LnOk W p/\p.1.length<=64/\p.2.length<=64:=by
 obtain⟨⟨i,r⟩,hp,h⟩:=List.mem_flatMap.1 h;unfold yXj at h;cases hf:W[i]? with
 | none=>simp only[hf] at h;cases h
 | some f =>
  simp only[hf] at h;obtain⟨t,ht,h⟩:=List.mem_map.1 h;obtain⟨t0,ht0,rfl⟩:=List.mem_map.1 ht;obtain⟨rfl,hany⟩:=wVv h;have hfW:=lMg hf;refine⟨(lGs hf).1,?_,by rw[List.length_map,List.length_map];exact zU1 ht0,λp hp=>?_⟩
  ·have:t0.1∈yJx (calJ ca) f.op r:=by rw[<- yGl (hS.pf hfW) r];exact List.mem_map_of_mem ht0
   unfold yJx at this;have key:∀l:List Nat,t0.1∈l->(∀x∈l,x<256)->t0.1<256:=λl h1 h2=>h2 _ h1;refine key _ this ?_
   repeat' split
   all_goals simp
  ·obtain⟨e,he,rfl⟩:=List.mem_map.1 hp;obtain⟨p0,hp0,rfl⟩:=List.mem_map.1 he;refine⟨xVc hln (hS.sub hfW ht0 hp0),?_⟩;have htoo:tooN (calJ ca) ln (exW W p0)=false:=by
    cases hq:tooN (calJ ca) ln (exW W p0) with
    | false=>rfl
    | true=>rw[List.any_eq_true.2 ⟨_,he,hq⟩] at hany;cases hany
   unfold tooN at htoo;rw[Bool.or_eq_false_iff,decide_eq_false_iff_not,decide_eq_false_iff_not] at htoo;have h1:=zJd (ln.1++(exW W p0).1.1);have h2:=zJd (rgtN (calJ ca) ln (exW W p0)++(exW W p0).1.2);rw[lLa] at h1 h2;have h3:(exW W p0).1.1.length<=(exW W p0).2.1:=yG6 W p0.1;have h4:(exW W p0).1.2.length<=(exW W p0).2.2:=yG6 W p0.2;unfold yUx;simp only;omega
theorem xW3 {W:List Fm}(hWs:W.length<=1000000){ln:Ln}(h:LnOk W ln)(hs:ln.1.length<=64/\ln.2.length<=64):zU3 ln/\ln.2.length<256:=by
 exact⟨⟨⟨λi hi=>by have:=h.1.2 i hi;omega,λi hi=>by have:=h.2.2 i hi;omega⟩,by omega⟩,by omega⟩
theorem RS.upm {ca m:Nat}{W:List Fm}{tw:Tag}{xw:List IV}{rb mN:Nat}{S0 st:ISt}{lines:List Ln}{links:List (List Lk)}(h:RS ca m W tw xw rb mN S0 st lines links){kk:KeyK}{es es':List (Value×IV)}(hm:st m=some (.map kk es))(hu:CacheOk ca W es->CacheOk ca W es') :
  RS ca m W tw xw rb mN S0 (st.put m (some (.map kk es'))) lines links:=by
 obtain⟨tl,xl,tk,xk,hrb,hxl,hol,hxk,hok⟩:=h.ex;obtain⟨es0,he0,hc0⟩:=h.sp;rw[he0] at hm;cases hm;have h1:rb≠m:=by rintro rfl;rw[hrb] at he0;cases he0
 have h2:mN≠m:=by rintro rfl;rw[h.num] at he0;cases he0
 have hfr:∀g n k,st g=some (.front n k)->(st.put m (some (.map .pl es'))) g=some (.front n k):=λg n k hg=>by
  rw[yQ7 λe=>by rw[e,he0] at hg;cases hg];exact hg
 exact⟨⟨tl,xl,tk,xk,by rw[yQ7 h1];exact hrb,hxl,hol.mono λg hg _=>hfr g _ _ hg,hxk,hok.mono λg hg _=>hfr g _ _ hg⟩,by rw[yQ7 h2];exact h.num,⟨es',ISt.put_same ..,hu hc0⟩,yQa h.base h.off.2.2,h.off,h.ok,h.nd⟩
theorem RS.elsewhere {ca m:Nat}{W:List Fm}{tw:Tag}{xw:List IV}{rb mN:Nat}{S0 st st':ISt}{lines:List Ln}{links:List (List Lk)}(h:RS ca m W tw xw rb mN S0 st lines links)(hb:subSt S0 st')
  (hk:∀b o,st b=some o->b=rb\/b=mN\/b=m\/(∃n,o=.front n 2)\/(∃n,o=.front n 1)->st' b=some o):RS ca m W tw xw rb mN S0 st' lines links:=by
 obtain⟨tl,xl,tk,xk,hrb,hxl,hol,hxk,hok⟩:=h.ex;obtain⟨es0,he0,hc0⟩:=h.sp;exact⟨⟨tl,xl,tk,xk,hk _ _ hrb (.inl rfl),hxl,hol.mono λg hg _=>hk g _ hg (.inr (.inr (.inr (.inl ⟨_,rfl⟩)))),hxk,hok.mono λg hg _=>hk g _ hg (.inr (.inr (.inr (.inr ⟨_,rfl⟩))))⟩,hk _ _ h.num (.inr (.inl rfl)),⟨es0,hk _ _ he0 (.inr (.inr (.inl rfl))),hc0⟩,hb,h.off,h.ok,h.nd⟩
theorem zG0 {ca:Nat}{W:List Fm}(hS:SpOk ca W)(hWs:W.length<=200000){ln:Ln}(hln:LnOk W ln):(mvsN W (calJ ca) ln).length<=16000000:=by
 have h1:=yYq hln.1.1 hln.1.2;have h2:=yYq hln.2.1 hln.2.2;have h3:∀p,(yXj W (calJ ca) ln p).length<=2:=λp=>by
  unfold yXj;cases hf:W[p.1]? with
  | none=>simp
  | some f =>
   simp only[List.length_map,yZr];rw[<- List.length_map (f:=(·.1)),yGl (hS.pf (lMg hf))];unfold yJx
   repeat' split
   all_goals simp
 have h4:∀l:List (Nat×Bool),(l.flatMap (yXj W (calJ ca) ln)).length<=2*l.length:=λl=>by
  induction l with
  | nil=>simp
  | cons a l ih=>rw[List.flatMap_cons,lLa,List.length_cons];have:=h3 a;omega
 have:=h4 (plcs ln);rw[yUy] at this;unfold mvsN;omega
theorem yUm:tyI prog 21=some (false,1):=by kernel_rfl
def ExpR (ca m:Nat)(W:List Fm)(tw:Tag)(xw:List IV)(rb mN:Nat)(S0:ISt)(lines:List Ln)(links:List (List Lk))(ln:Ln)(r:IV)(st':ISt):Prop :=
 (∃t ys L vs more,r=.tup [.sl t ys,.raw (.int .i64 0)]/\okEs t 5/\AllR IsLk L ys/\mvsN W (calJ ca) ln=vs.map some/\LksOf (lines++more) vs L/\(∀p∈more,yVh W (calJ ca) ln p)/\(lines++more).length<=20000/\RS ca m W tw xw rb mN S0 st' (lines++more) links) \/
 (r=.tup [.sl ⟨true,.nil,0⟩ [],.raw (.int .i64 5)]/\none∈mvsN W (calJ ca) ln/\subSt S0 st') \/
 (r=.tup [.sl ⟨true,.nil,0⟩ [],.raw (.int .i64 4)]/\subSt S0 st'/\∃more p,(∀q∈more,yVh W (calJ ca) ln q)/\yVh W (calJ ca) ln p/\p ∉ lines++more/\(lines++more).Nodup/\20000<=(lines++more).length)
theorem wWi (G:Gl gl)(T:Gt gl)(ca m:Nat)(W:List Fm)(hS:SpOk ca W)(hWs:W.length<=200000)(tw:Tag)(xw:List IV)(htw:okEs tw 4)(hxw:IsFms W xw)(rb mN:Nat)(S0 st:ISt)(lines:List Ln)(links:List (List Lk))(hR:RS ca m W tw xw rb mN S0 st lines links)(hll:lines.length<=20000)
  (i:Nat) (ln:Ln) (hi:lines[i]?=some ln) (hln:LnOk W ln) :
  ICall prog gl 77 [.raw (.pointer (some ⟨rb,0,none⟩)),.raw (.int .i64 (i:Int))] st (ExpR ca m W tw xw rb mN S0 lines links ln):=by
 obtain⟨tl,xl,tk,xk,hrb,hxl,hol,hxk,hok⟩:=hR.ex;obtain⟨x,hxi,hx⟩:=hxl.2 i ln hi;have hil:i<lines.length:=(lGs hi).1;have hmc:=λst=>wZl gl m (spI ca tw xw m) x _ rfl ln hx st;have hit:=xVr gl G T ca m W hS hWs tw xw htw hxw ln hln x hx;obtain⟨t1,t2,rfl,e1,e2⟩:=id hx;refine ICall.intro (c:=cf prog gl [4,5,6,17,21] [] [2]) func77 rfl (by show _<=68;simp) (by kernel_rfl) ?_;simp only[go_sem,zE,zB,zA,fits];refine λb4=>yQ9 λh4=>λb5=>yQ9 λh5=>λb6=>yQ9 λh6=>?_;have n54:b5≠b4:=by rintro rfl;rw[ISt.put_same] at h5;cases h5
 have n64:b6≠b4:=by rintro rfl;rw[yQ7 (λh=>n54 h.symm),ISt.put_same] at h6;cases h6
 have n65:b6≠b5:=by rintro rfl;rw[ISt.put_same] at h6;cases h6
 have h5':st b5=none:=by rw[yQ7 n54] at h5;exact h5
 have h6':st b6=none:=by rw[yQ7 n65,yQ7 n64] at h6;exact h6
 obtain⟨stA,hstA⟩:∃s,s=((st.put b4 (some (.box [.sl ⟨true,.nil,0⟩ []]))).put b5 (some (.box [.raw (.int .i64 0)]))).put b6 (some (.box [.sl ⟨true,.nil,0⟩ []])):=⟨_,rfl⟩
 have hA:∀b o,st b=some o->stA b=some o:=λb o h=>by
  rw[hstA,yQ7 (λe=>by rw[e,h6'] at h;cases h),yQ7 (λe=>by rw[e,h5'] at h;cases h),yQ7 (λe=>by rw[e,h4] at h;cases h)];exact h
 have hA4:stA b4=some (.box [.sl ⟨true,.nil,0⟩ []]):=by rw[hstA,yQ7 (λh=>n64 h.symm),yQ7 (λh=>n54 h.symm),ISt.put_same]
 have hA5:stA b5=some (.box [.raw (.int .i64 0)]):=by rw[hstA,yQ7 (λh=>n65 h.symm),ISt.put_same]
 have hA6:stA b6=some (.box [.sl ⟨true,.nil,0⟩ []]):=by rw[hstA,ISt.put_same]
 have hRA:=hR.elsewhere (st':=stA) (λb o h=>hA b o (hR.base b o h)) λb o h _=>hA b o h;rw[<- hstA];have nrb:∀ {b:Nat},st b=none->b≠rb/\b≠mN/\b≠m:=λ{b} h=>by
  obtain⟨es,he,_⟩:=hR.sp;exact⟨λe=>(by rw[e,hrb] at h;cases h),λe=>(by rw[e,hR.num] at h;cases h),λe=>(by rw[e,he] at h;cases h)⟩
 have k4:=nrb h4;have k5:=nrb h5';have k6:=nrb h6';have z4:=yXk hR.base h4;have z5:=yXk hR.base h5';have z6:=yXk hR.base h6';simp only[go_sem,zA,hA _ _ hrb,yQ4 hol.es,iNn,hxi];refine (hmc _).mono ?_;rintro _ s0 ⟨rfl,rfl⟩;simp only[go_sem,reduceCtorEq];have hcm:∀ {l:List (Option Mv)} {o:Option Mv},o∈cutO l->o∈l:=λ{l}=>by
  induction l with
  | nil=>intro o h;exact h
  | cons a l ih =>
   intro o h;cases a with
   | none=>simp only[cutO,List.mem_singleton] at h;rw[h];exact .head _
   | some a =>
    simp only[cutO] at h;rcases List.mem_cons.1 h with h|h
    ·rw[h];exact .head _
    ·exact .tail _ (ih h)
 let EI:Nat->ISt->Prop:=λk s=>∃more vs L t6 ys,(cutO (mvsN W (calJ ca) ln)).take k=vs.map some/\RS ca m W tw xw rb mN S0 s (lines++more) links/\(∀p∈more,yVh W (calJ ca) ln p)/\(lines++more).length<=20000/\LksOf (lines++more) vs L/\AllR IsLk L ys /\
  s b4=some (.box [.sl ⟨true,.nil,0⟩ []])/\s b5=some (.box [.raw (.int .i64 0)])/\s b6=some (.box [.sl t6 ys])/\own s t6 L.length 5 S0
 let ES:Exit->ISt->Prop:=λe s=>e=.ret/\s b4=some (.box [.sl ⟨true,.nil,0⟩ []])/\subSt S0 s/\((s b5=some (.box [.raw (.int .i64 5)])/\none∈mvsN W (calJ ca) ln) \/
  (s b5=some (.box [.raw (.int .i64 4)])/\∃more p,(∀q∈more,yVh W (calJ ca) ln q)/\yVh W (calJ ca) ln p/\p ∉ lines++more/\(lines++more).Nodup/\20000<=(lines++more).length))
 refine RangeU.intro (mvX W (calJ ca) ln) (cutO (mvsN W (calJ ca) ln)).length EI ES (SpUp ca m W) ?_ (by simp only[go_sem]) ?_ ?_ ?_ (hit.of λk s ⟨_,_,_,_,_,_,h,_⟩=>h.sp) ?_ ?_
 ·rintro k s m' kk es es' ⟨more,vs,L,t6,ys,q1,q2,q3,q4,q5,q6,q7,q8,q9,q10⟩ hm ⟨rfl,hu⟩;refine⟨more,vs,L,t6,ys,q1,q2.upm hm hu,q3,q4,q5,q6,by rw[yQ7 k4.2.2];exact q7,by rw[yQ7 k5.2.2];exact q8,by rw[yQ7 k6.2.2];exact q9,q10.mono λg hg _=>?_⟩;rw[yQ7 λe=>by rw[e,hm] at hg;cases hg];exact hg
 ·rintro k a ⟨o,_,ho⟩;cases o with
  | none=>rw[show a=_ from ho];rfl
  | some v=>obtain⟨x,rfl,_⟩:=ho;rfl
 ·refine⟨[],[],[],_,_,rfl,by rw[List.append_nil];exact hRA,λ_ h=>(by cases h),by rw[List.append_nil];exact hll,⟨rfl,λi v h=>(by simp at h)⟩,AllR.nil,hA4,hA5,hA6,own.nil _ _ _ _ _⟩
 ·rintro k a s ⟨o,hok',ho⟩ ⟨more,vs,L,t6,ys,q1,q2,q3,q4,q5,q6,q7,q8,q9,q10⟩;cases o with
  | none =>
   obtain rfl:a=_:=ho;simp only[go_sem,zE,zA,zL,show decide ((5:Int)=0)=false from rfl,q7,yQ7 n54,q8];exact⟨rfl,by rw[yQ7 (λh=>n54 h.symm),ISt.put_same],yQa (yQa q2.base z4) z5,.inl ⟨ISt.put_same ..,hcm (lMg hok')⟩⟩
  | some v =>
   obtain⟨xv,rfl,tv,zv,rfl,htv,hzv⟩:=ho;have hvm:=hcm (lMg hok');obtain⟨g1,g2,g3,g4⟩:=zXd hS hln hvm;have hcv:=λn:Int=>yXz prog 3 21 zVl zXk .i64 n;have hw:IntKind.i32.wrap (v.2.1:Int)=(v.2.1:Int):=IntWalk.i32_in _ (by omega);simp only[go_sem,zE,zA,zL,fits,decide_true,hcv,hw];intro _;rw[hzv.1];refine LoopC.ctr v.2.2.length (λq fr st' ds=>(∃(mm:List Ln) (p0 p1:Nat) (ids:List Nat),fr 9=.box [.raw (.int .u8 (v.1:Int)),.raw (.int .u8 (q:Int)),.raw (.int .i32 (v.2.1:Int)),.raw (.int .i32 (p0:Int)),.raw (.int .i32 (p1:Int))]/\ids=[p0,p1].take q /\
     RS ca m W tw xw rb mN S0 st' (lines++(more++mm)) links/\(∀p∈more++mm,yVh W (calJ ca) ln p)/\(lines++(more++mm)).length<=20000/\(∀(r n:Nat),ids[r]?=some n->∃p,(lines++(more++mm))[n]?=some p/\v.2.2[r]?=some p)) /\
    st' b4=some (.box [.sl ⟨true,.nil,0⟩ []])/\st' b5=some (.box [.raw (.int .i64 0)])/\st' b6=some (.box [.sl t6 ys])/\own st' t6 L.length 5 S0 /\
    fr 2=.iv (.cptr (.raw (.pointer (some ⟨rb,0,none⟩))))/\fr 4=.iv (.raw (.pointer (some ⟨b4,0,none⟩)))/\fr 5=.iv (.raw (.pointer (some ⟨b5,0,none⟩)))/\fr 6=.iv (.raw (.pointer (some ⟨b6,0,none⟩))) /\
    fr 38=.iv (.sl tv zv)/\fr 39=.iv (.raw (.int .i64 v.2.2.length))/\fr 40=.iv (.raw (.int .i64 (q:Int)))/\ds=[]) ?_ ?_ ?_
   ·simp only[go_sem,zE];exact⟨⟨[],0,0,[],rfl,rfl,by rw[List.append_nil];exact q2,by rw[List.append_nil];exact q3,by rw[List.append_nil];exact q4,λr n h=>by simp at h⟩,q7,q8,q9,q10,rfl⟩
   ·rintro q fr s1 _ hq ⟨⟨mm,p0,p1,ids,f9,rfl,r2,r3,r4,r5⟩,q7,q8,q9,q10,f2,f4,f5,f6,f38,f39,f40,rfl⟩;obtain⟨p,hp⟩:=yQ1 hq;have hpm:=lMg hp;obtain⟨g5,g6⟩:=g4 p hpm;have hPp:yVh W (calJ ca) ln p:=⟨v,hvm,hpm⟩
    obtain⟨zq,hzq,hzl⟩:=hzv.2 q p hp;obtain⟨kk1,kk2⟩:=xW3 (by omega) g5 g6;have hfc:=wGa gl ca m W tw xw rb mN S0 s1 _ links r2 p kk1 kk2 zq hzl r4;obtain⟨ta,tb,rfl,ea,eb⟩:=hzl;have hq2:q=0\/q=1:=by omega
    have fin:∀ {n:Nat} {mm':List Ln},(lines++(more++mm'))[n]?=some p->(∀(k:Nat) (a:Ln),(lines++(more++mm))[k]?=some a->(lines++(more++mm'))[k]?=some a)->∀(r n':Nat),([p0,p1].take q++[n])[r]?=some n'->∃p,(lines++(more++mm'))[n']?=some p/\v.2.2[r]?=some p:=λ{n mm'} hn hext r n' h=>by
     have hlen:([p0,p1].take q).length=q:=by rw[List.length_take];simp only[List.length_cons,List.length_nil];omega
     rcases Nat.lt_or_ge r q with hr|hr
     ·rw[List.getElem?_append_left (by omega)] at h;obtain⟨a,ha1,ha2⟩:=r5 r n' h;exact⟨a,hext _ _ ha1,ha2⟩
     ·rw[List.getElem?_append_right (by omega),hlen] at h;have hr0:r-q=0:=by
       rcases Nat.eq_zero_or_pos (r-q) with h0|h0
       ·exact h0
       ·rw[List.getElem?_eq_none (by simp only[List.length_cons,List.length_nil];omega)] at h;cases h
      rw[hr0] at h;cases h;obtain rfl:r=q:=by omega
      exact⟨p,hn,hp⟩
    simp only[go_sem,zE,zB,zA,zL,f2,f38,f39,f40,lt_i hq,yQ4 htv,iNn,hzq,fits];refine hfc.mono ?_;rintro _ s2 (⟨n,hn,rfl,rfl⟩|⟨hnm,⟨hge,rfl,rfl⟩|⟨hlt',rfl,hR2,hkp⟩⟩)
    ·rcases hq2 with rfl|rfl
     ·simp only[go_sem,zE,zA,zM,zL,f2,f4,f5,f6,f9,f38,f39,f40,decide_true,iNn,show (0<2)=True from eq_true (by decide),yUm,show IntKind.u8.wrap (((0:Nat):Int)+1)=((1:Nat):Int) from rfl,show IntKind.i64.wrap (((0:Nat):Int)+1)=((1:Nat):Int) from rfl];exact⟨⟨mm,n,p1,[n],rfl,rfl,r2,r3,r4,fin hn (λ_ _ h=>h)⟩,q7,q8,q9,q10⟩
     ·simp only[go_sem,zE,zA,zM,zL,f2,f4,f5,f6,f9,f38,f39,f40,decide_true,iNn,show (1<2)=True from eq_true (by decide),yUm,show IntKind.u8.wrap (((1:Nat):Int)+1)=((2:Nat):Int) from rfl,show IntKind.i64.wrap (((1:Nat):Int)+1)=((2:Nat):Int) from rfl];exact⟨⟨mm,p0,n,[p0,n],rfl,rfl,r2,r3,r4,fin hn (λ_ _ h=>h)⟩,q7,q8,q9,q10⟩
    ·simp only[go_sem,zE,zL,f4,f5,show decide ((4:Int)=0)=false from rfl,q7,yQ7 n54,q8];exact⟨rfl,by rw[yQ7 (λh=>n54 h.symm),ISt.put_same],yQa (yQa r2.base z4) z5,.inr ⟨ISt.put_same ..,more++mm,p,r3,hPp,hnm,r2.nd,hge⟩⟩
    ·have hgn:(lines++(more++(mm++[p])))[(lines++(more++mm)).length]?=some p:=by
      rw[<- List.append_assoc more,<- List.append_assoc lines,List.getElem?_append_right (Nat.le_refl _),Nat.sub_self];rfl
     have hext:∀(k:Nat) (a:Ln),(lines++(more++mm))[k]?=some a->(lines++(more++(mm++[p])))[k]?=some a:=λk a h=>by
      rw[<- List.append_assoc more,<- List.append_assoc lines,List.getElem?_append_left (lGs h).1];exact h
     have hR3:RS ca m W tw xw rb mN S0 s2 (lines++(more++(mm++[p]))) links:=by
      rw[<- List.append_assoc more,<- List.append_assoc lines];exact hR2
     have hP3:∀x∈more++(mm++[p]),yVh W (calJ ca) ln x:=λx hx=>by
      rw[<- List.append_assoc] at hx;rcases List.mem_append.1 hx with hx|hx
      ·exact r3 x hx
      ·rw[List.mem_singleton.1 hx];exact hPp
     have hL3:(lines++(more++(mm++[p]))).length<=20000:=by
      rw[<- List.append_assoc more,<- List.append_assoc lines,lLa];simp only[List.length_cons,List.length_nil];omega
     have v4:=hkp b4 _ q7 k4.1 k4.2.1 k4.2.2 λn h=>by cases h
     have v5:=hkp b5 _ q8 k5.1 k5.2.1 k5.2.2 λn h=>by cases h
     have v6:=hkp b6 _ q9 k6.1 k6.2.1 k6.2.2 λn h=>by cases h
     have v10:own s2 t6 L.length 5 S0:=q10.mono λg hg _=>by
      obtain⟨tl',xl',tk',xk',w1,_⟩:=r2.ex;obtain⟨es',w2,_⟩:=r2.sp;exact hkp g _ hg (λe=>by rw[e,w1] at hg;cases hg) (λe=>by rw[e,r2.num] at hg;cases hg) (λe=>by rw[e,w2] at hg;cases hg) λn h=>by cases h
     rcases hq2 with rfl|rfl
     ·simp only[go_sem,zE,zA,zM,zL,f2,f4,f5,f6,f9,f38,f39,f40,decide_true,iNn,show (0<2)=True from eq_true (by decide),yUm,show IntKind.u8.wrap (((0:Nat):Int)+1)=((1:Nat):Int) from rfl,show IntKind.i64.wrap (((0:Nat):Int)+1)=((1:Nat):Int) from rfl];exact⟨⟨mm++[p],_,p1,[_],rfl,rfl,hR3,hP3,hL3,fin hgn hext⟩,v4,v5,v6,v10⟩
     ·simp only[go_sem,zE,zA,zM,zL,f2,f4,f5,f6,f9,f38,f39,f40,decide_true,iNn,show (1<2)=True from eq_true (by decide),yUm,show IntKind.u8.wrap (((1:Nat):Int)+1)=((2:Nat):Int) from rfl,show IntKind.i64.wrap (((1:Nat):Int)+1)=((2:Nat):Int) from rfl];exact⟨⟨mm++[p],p0,_,[p0,_],rfl,rfl,hR3,hP3,hL3,fin hgn hext⟩,v4,v5,v6,v10⟩
   ·rintro fr s1 _ ⟨⟨mm,p0,p1,ids,f9,rfl,r2,r3,r4,r5⟩,q7,q8,q9,q10,f2,f4,f5,f6,f38,f39,f40,rfl⟩;have hlen:([p0,p1].take v.2.2.length).length=v.2.2.length:=by rw[List.length_take];simp only[List.length_cons,List.length_nil];omega
    have hyl:ys.length=L.length:=q6.1;have hcl:(cutO (mvsN W (calJ ca) ln)).length<=16000000:=by
     have h1:∀l:List (Option Mv),(cutO l).length<=l.length:=λl=>by
      induction l with
      | nil=>exact Nat.le_refl _
      | cons a l ih =>
       cases a with
       | none=>simp[cutO]
       | some a=>simp only[cutO,List.length_cons];omega
     exact Nat.le_trans (h1 _) (zG0 hS hWs hln)
    have hLk:L.length=k:=by
     have h1:=congrArg List.length q1;rw[List.length_take,List.length_map] at h1;have h2:=(lGs hok').1;rw[q5.1];omega
    have hkl:=(lGs hok').1;simp only[go_sem,zE,zA,zM,zL,f6,f9,f39,f40,yQl (nLi _),q9,fits,yQ3];refine yZf q10 hyl r2.base rfl (by simp[fits,IV.one]) (by simp only;omega) (by omega) λt6' s2 w1 w2 w3=>?_;have v4:=w3 b4 _ q7 λn h=>by cases h
    have v5:=w3 b5 _ q8 λn h=>by cases h
    have v6:=w3 b6 _ q9 λn h=>by cases h
    simp only[go_sem,zE,zL,f6,v6];have hkeep:∀b o,s1 b=some o->b≠b6->(∀n,o≠.front n 5)->(s2.put b6 (some (.box [.sl t6' (ys++[.agg [.raw (.int .u8 (v.1:Int)),.raw (.int .u8 (v.2.2.length:Int)),.raw (.int .i32 (v.2.1:Int)),.raw (.int .i32 (p0:Int)),.raw (.int .i32 (p1:Int))]])]))) b=some o:=λb o h h1 h2=>by
     rw[yQ7 h1];exact w3 b o h h2
    refine⟨more++mm,vs++[v],L++[(v.1,v.2.1,[p0,p1].take v.2.2.length)],t6',_,?_,r2.elsewhere (yQa w2 z6) λb o h hor=>hkeep b o h ?_ ?_,r3,r4,LksOf.snoc ?_ ⟨rfl,rfl,hlen,r5⟩,q6.snoc ⟨p0,p1,by rw[hlen],by rw[hlen]⟩,?_,?_,ISt.put_same ..,?_⟩
    ·rw[yQ8 hok',q1,List.map_append];rfl
    ·rintro rfl;rcases hor with h1|h1|h1|⟨n,h1⟩|⟨n,h1⟩
     ·exact k6.1 h1
     ·exact k6.2.1 h1
     ·exact k6.2.2 h1
     ·rw[q9] at h;rw[h1] at h;cases h
     ·rw[q9] at h;rw[h1] at h;cases h
    ·rintro n rfl;rcases hor with h1|h1|h1|⟨n,h1⟩|⟨n,h1⟩
     ·obtain⟨_,_,_,_,e,_⟩:=r2.ex;rw[h1,e] at h;cases h
     ·rw[h1,r2.num] at h;cases h
     ·obtain⟨_,e,_⟩:=r2.sp;rw[h1,e] at h;cases h
     ·cases h1
     ·cases h1
    ·rw[<- List.append_assoc];exact q5.app
    ·rw[yQ7 λh=>n64 h.symm];exact v4
    ·rw[yQ7 λh=>n65 h.symm];exact v5
    ·rw[lLa];refine w1.mono λg hg _=>?_;rw[yQ7 λe=>by rw[e,v6] at hg;cases hg];exact hg
 ·rintro s rr ⟨more,vs,L,t6,ys,q1,q2,q3,q4,q5,q6,q7,q8,q9,q10⟩;rw[lTl] at q1;have hall:mvsN W (calJ ca) ln=vs.map some:=by
   have h1:∀l:List (Option Mv),none ∉ cutO l->cutO l=l:=λl=>by
    induction l with
    | nil=>intro _;rfl
    | cons a l ih =>
     intro h;cases a with
     | none=>exact absurd (.head _) h
     | some a=>simp only[cutO] at h ⊢;rw[ih λh'=>h (.tail _ h')]
   rw[<- q1,h1];rw[q1];simp
  simp only[go_sem,zE,zL,q9,q7,q8,yQ7 n54,yQ7 (λh=>n54 h.symm)];refine yQ0 (.inl ⟨t6,ys,L,vs,more,rfl,q10.es,q6,hall,q5,q3,q4,q2.elsewhere (yQa (yQa q2.base z4) z5) λb o h hor=>?_⟩);have hb:∀b',(b'≠rb/\b'≠mN/\b'≠m)->(∃c,s b'=some (.box c))->b≠b':=by
   rintro b' hk ⟨c,hc⟩ rfl;rcases hor with h1|h1|h1|⟨n,h1⟩|⟨n,h1⟩
   ·exact hk.1 h1
   ·exact hk.2.1 h1
   ·exact hk.2.2 h1
   ·rw[hc,h1] at h;cases h
   ·rw[hc,h1] at h;cases h
  rw[yQ7 (hb b5 k5 ⟨_,q8⟩),yQ7 (hb b4 k4 ⟨_,q7⟩)];exact h
 ·rintro e s rr ⟨rfl,w1,w2,hor⟩;rcases hor with⟨w3,w4⟩|⟨w3,w4⟩
  ·simp only[go_sem,zE,w1,w3];exact yQ0 (.inr (.inl ⟨rfl,w4,w2⟩))
  ·simp only[go_sem,zE,w1,w3];exact yQ0 (.inr (.inr ⟨rfl,w2,w4⟩))
theorem uWx (a b:Fm)(x y:IV)(hx:IsFm a x)(hy:IsFm b y)(st:ISt):ICall prog gl 129 [x,y] st (λr st'=>r=.raw (.bool (decide (yZa a b=0)))/\st'=st):=by
 have hc:=zQg gl a b x y hx hy st;cases a with
 | mk o1 n1 u1 s1 =>
 cases b with
 | mk o2 n2 u2 s2 =>
 obtain⟨t1,x1,t2,x2,rfl,_⟩:=hx.mk;obtain⟨t3,x3,t4,x4,rfl,_⟩:=hy.mk;refine iI func129 ?_;simp only[go_sem,zE,zA,zL];refine hc.mono ?_;rintro _ st ⟨rfl,rfl⟩;simp only[go_sem];exact yQ0 ⟨rfl,rfl⟩
theorem wKz {st:ISt}{m b b5 b6:Nat}{M S x y F0 F:Option IObj}(h1:st m=none)(h2:(st.put m M) b=none)(h3:((st.put m M).put b S) b5=none)(h4:(((((st.put m M).put b S).put b5 x).put b5 y).put b5 none) b6=none)(hM:M≠none)(hS:S≠none) :
  b6≠b/\b6≠m/\b≠m/\st b6=none/\st b=none/\((((((st.put m M).put b S).put b5 x).put b5 y).put b5 none).put b6 F0).put b6 F=((st.put m M).put b6 F).put b S:=by
 have e1:b≠m:=by rintro rfl;rw[ISt.put_same] at h2;exact hM h2
 rw[yQ7 e1] at h2;have e2:b5≠b:=by rintro rfl;rw[ISt.put_same] at h3;exact hS h3
 rw[yQ7 e2] at h3;have e3:b5≠m:=by rintro rfl;rw[ISt.put_same] at h3;exact hM h3
 rw[yQ7 e3] at h3;have hst:((((st.put m M).put b S).put b5 x).put b5 y).put b5 none=(st.put m M).put b S:=by
  funext c;simp only[ISt.put_apply];by_cases e:c=b5
  ·rw[if_pos e,e,if_neg e2,if_neg e3,h3]
  ·rw[if_neg e,if_neg e,if_neg e]
 rw[hst] at h4 ⊢;have e4:b6≠b:=by rintro rfl;rw[ISt.put_same] at h4;exact hS h4
 rw[yQ7 e4] at h4;have e5:b6≠m:=by rintro rfl;rw[ISt.put_same] at h4;exact hM h4
 rw[yQ7 e5] at h4;refine⟨e4,e5,e1,h4,h2,?_⟩;rw[yQ6];funext c;simp only[ISt.put_apply];by_cases e:c=b6
 ·rw[if_pos e,e,if_neg e4,if_pos rfl]
 ·rw[if_neg e,if_neg e]
theorem wQp (f:Fm):1<=(cloF f).length:=by
 cases f with
 | mk o n us sub =>
  rw[cloF,lLa];have:=xV2 (.mk o n us sub);omega
theorem xJv:∀l:List Fm,l.length<=(yZq l).length
 | []=>Nat.le_refl _
 | a::l=>by
  rw[yZq,lLa,List.length_cons];have h1:=wQp a;have h2:=xJv l;omega
theorem zWv:∀(a:List Fm)(k:Nat),(yZq (a.take k)).length<=(yZq a).length
 | [],k=>by simp
 | c::a,0=>by simp[yZq]
 | c::a,k+1=>by
  simp only[List.take_succ_cons,yZq,lLa];have:=zWv a k;omega
theorem xJw {cs Z:List IV}{k:Nat}(h:cs.take k=Z):cs=Z++cs.drop k:=by rw[<- h,List.take_append_drop]
theorem zUi {st S s1:ISt}{m b ca:Nat}{W:List Fm}{y:IV}{t:Tag}{z:List IV}(hm:st m=none)(h0:∀c o,(st.put m (some (.map .pl []))) c=some o->S c=some o)(h1:∀c o,s1 c=some o->S c=some o/\(st.put m (some (.map .pl []))) c=none)
  (hb:s1 b=some (.box [.raw (.int .u8 (ca:Int)),y,.raw (.map (some m))])) (hy:OI s1 y (.sl t z)) (ht:okEs t 4) (hz:IsFms W z) :
  ∃x s1 s0,LendOk S s1 s0/\OI s1 (ptr b) x/\∃m tw xw,st m=none/\okEs tw 4/\IsFms W xw/\age x=spI ca tw xw m/\s0=st.put m (some (.map .pl [])):=by
 refine⟨.cptr (.agg [.raw (.int .u8 (ca:Int)),.sl t z,.raw (.map (some m))]),s1,_,⟨λc o hc=>(h1 c o hc).1,h0,λc cs hc=>(h1 c _ hc).2⟩,.ptr b _ _ hb rfl λi r c hr hc=>?_,m,⟨false,t.cap,t.es⟩,ages z,hm,?_,hz.aged,by simp only[age,ages],rfl⟩
 ·match i,hr,hc with
  | 0,hr,hc=>cases hr;cases hc;exact .refl _
  | 1,hr,hc=>cases hr;cases hc;exact hy
  | 2,hr,hc=>cases hr;cases hc;exact .refl _
  | i+3,hr,hc=>simp at hr
 ·exact ht
theorem xGc (ca:Nat)(s:Sq)(x:IV)(hx:IsSq s x)(hl:(yZq (s.l++s.r)).length<=1000000)(st:ISt) :
  ICall prog gl 98 [.raw (.int .u8 (ca:Int)),x] st (λr st'=>∃m tw xw,st m=none/\okEs tw 4/\IsFms (setF (yZq (s.l++s.r))) xw/\r=spI ca tw xw m/\st'=st.put m (some (.map .pl []))):=by
 refine ICall.fix ?_;have hx0:=hx;obtain⟨t1,x1,t2,x2,rfl,e1,i1,e2,i2⟩:=hx;refine ICall.introF (t:=5) (n:=2) (c:=cf prog gl [12,5,6,32,38] []) func98 rfl (by show _<=43;simp) (by show _<43;simp) (by kernel_rfl) ?_;simp only[go_sem,zE,zA,zL,reduceCtorEq,fits];refine λm=>yQ9 λh1=>λb=>yQ9 λh2=>λb5=>yQ9 λh3=>?_;refine⟨b5,ptr b,by simp only[go_sem],ISt.put_same ..,?_⟩;simp only[go_sem,zE,zA,zM,zL,fits];refine λb6=>yQ9 λh4=>?_;obtain⟨n1,n2,n3,h5,h6,hst⟩:=wKz (F0:=some (.box [.raw .nilFunc])) (F:=some (.box [colFn b b6])) h1 h2 h3 h4 nofun nofun;simp only[go_sem,yJs,show age (ptr b)=ptr b by simp only[age],hst];refine (zU4 gl s.l s.r t1 t2 _ x1 x2 (.inr rfl) i1 i2 (by rw[<- lLa];exact Nat.le_trans (xJv _) (Nat.le_trans hl (by omega))) _).mono ?_;rintro _ _ ⟨tc,xc,rfl,hec,hxc,rfl⟩;simp only[go_sem];intro _;generalize hB:(st.put m (some (.map .pl []))).put b6 (some (.box [colFn b b6]))=B0;have hb6:B0 b6=some (.box [colFn b b6]):=by rw[<- hB,ISt.put_same]
 have hgB:∀g,B0 g=none->g≠m/\g≠b6/\st g=none:=λg hg=>by
  rw[<- hB] at hg;have g1:g≠b6:=by rintro rfl;rw[ISt.put_same] at hg;cases hg
  rw[yQ7 g1] at hg;have g2:g≠m:=by rintro rfl;rw[ISt.put_same] at hg;cases hg
  rw[yQ7 g2] at hg;exact⟨g2,g1,hg⟩
 have hBm:∀c o,(st.put m (some (.map .pl []))) c=some o->B0 c=some o/\c≠b:=λc o hc=>by
  have c1:c≠b:=by rintro rfl;rw[yQ7 n3,h6] at hc;cases hc
  have c2:c≠b6:=by rintro rfl;rw[yQ7 n2,h5] at hc;cases hc
  exact⟨by rw[<- hB,yQ7 c2];exact hc,c1⟩
 refine LoopC.ctr xc.length (λk fr st' ds=>Fo ca m b B0 (yZq ((s.l++s.r).take k)) st'/\fr 5=.iv (.cptr (ptr b))/\fr 6=.iv (ptr b6)/\fr 19=.iv (.sl tc xc)/\fr 20=.iv (.raw (.int .i64 xc.length))/\fr 21=.iv (.raw (.int .i64 (k:Int)))/\ds=[]) ?_ ?_ ?_
 ·simp only[go_sem,zE];exact⟨.inl ⟨rfl,rfl⟩,rfl⟩
 ·rintro k fr st1 _ hlt ⟨hF3,f5,f6,f19,f20,f21,rfl⟩;rw[hxc.len] at hlt;obtain⟨g,hg⟩:=yQ1 hlt;obtain⟨z,hz,hgz⟩:=hxc.get hg;have hlk:(yZq ((s.l++s.r).take k)++cloF g).length<=1000000:=by rw[<- yGi hg];exact Nat.le_trans (zWv _ _) hl
  have IHg:=vWs gl g ca m b6 b z hgz B0 st1 _ hb6 n1 hlk hF3;have hs6:=hF3.self hb6 n1;cases g with
  | mk og ng ug sg =>
  obtain⟨tg1,xg1,tg2,xg2,rfl,hgg⟩:=hgz.mk;simp only[go_sem,zE,zB,zA,zL,f6,f19,f20,f21,lt_i (show k<xc.length by rw[hxc.len];exact hlt),yQ4 hec,iNn,hz,fits,IV.one];rw[hs6];simp only[go_sem];refine IHg.mono ?_;rintro _ st1 hF4;simp only[go_sem,zE,f5,f6,f19,f20,f21,yQd (show k<xc.length by rw[hxc.len];exact hlt) (show xc.length<=281474976710656 by rw[hxc.len];exact Nat.le_trans (xJv _) (Nat.le_trans hl (by omega)))];rw[yGi hg];exact hF4
 ·rintro fr st1 _ ⟨hF,f5,f6,f19,f20,f21,rfl⟩;rw[hxc.len,lTl] at hF;generalize hW:yZq (s.l++s.r)=W at hF hl ⊢;rcases hF with⟨rfl,rfl⟩|⟨g,cap,cs,zs,hl0,hg,hgb,hcap,hroom,hcs,hzs,rfl⟩
  ·simp only[go_sem,zE,zA,f5,f20,f21,yQl (nLi _),fits,yUr];refine (xZi gl _ rfl _).mono ?_;rintro _ _ ⟨rfl,rfl⟩;simp only[go_sem,zE,zA,f5,fits];refine (zZy gl _ _ rfl _).mono ?_;rintro _ _ ⟨⟨t',rfl,ht'⟩,rfl⟩;simp only[go_sem,zE,zA,zL,f5,fits];rw[yQ6];refine yQ0 (zUi (s1:=ISt.put (λ_=>none) b (some (.box [.raw (.int .u8 (ca:Int)),.sl t' [],.raw (.map (some m))]))) (t:=t') (z:=[]) h1 (λc o hc=>?_) (λc o hc=>?_) (ISt.put_same ..) (.refl _) (.inl ht') (by rw[xV0];rfl))
   ·rw[yQ7 (hBm c o hc).2];exact (hBm c o hc).1
   ·rw[ISt.put_apply] at hc;split at hc
    ·rename_i e;subst e;exact⟨by rw[ISt.put_same];exact hc,by rw[yQ7 n3];exact h6⟩
    ·cases hc
  ·have hcells:=xJw hcs;have hso:=wGm gl W zs (cs.drop (W.length*4)) hzs (λe=>hl0 (by rw[e] at hzs;exact List.eq_nil_of_length_eq_zero (by rw[<- hzs.len];rfl))) (by rw[hzs.len];omega) g cap;rw[<- hcells,hzs.len] at hso;simp only[go_sem,zE,zA,f5,f20,f21,yQl (nLi _),fits,yUr,yQ7 hgb.symm];refine (hso _ (ISt.put_same ..)).mono ?_;rintro _ _ ⟨rfl,mm,ys,hms,hperm,hpw,-,rfl⟩;have hml:=hperm.length_eq;have hco:=xZn gl 129 (by simp only[go_sem]) (uWx gl) mm ys (cs.drop (W.length*4)) hms (by omega) g cap (by omega);rw[hml] at hco;simp only[go_sem,zE,zA,f5,fits,yQ7 hgb.symm];refine (hco _ (ISt.put_same ..)).mono ?_;rintro _ _ ⟨k,cs2,zs2,rfl,rfl,hc1,hc2,hz2,hk,hkm,-⟩;simp only[go_sem,zE,zA,zL,f5,fits,yQ7 hgb.symm];refine yQm rfl ?_;obtain⟨gm,g6,gs⟩:=hgB g hg;subst hk;rw[yQ6,yQ6,zYc hgb];have hz4:∀z∈zs2,z.cells.length=4:=λz hz=>by
    obtain⟨a,ha,_⟩:=zZa hz2 z hz;cases a;obtain⟨_,_,_,_,rfl,_⟩:=ha.mk;rfl
   have hcl:cs2.length=cs.length:=by
    rw[hc1,lLa,zXp hms,List.length_drop];omega
   refine yQ0 (zUi (s1:=(ISt.put (λ_=>none) b (some (.box [.raw (.int .u8 (ca:Int)),.raw (.slice (some ⟨g,0,none⟩) zs2.length cap),.raw (.map (some m))]))).put g (some (.box cs2))) (t:=⟨true,.app g,4⟩) (z:=zs2) h1 (λc o hc=>?_) (λc o hc=>?_) (by rw[yQ7 hgb.symm,ISt.put_same]) ?_ (.inr rfl) (by rw[yWg (xY4 _ mm hperm hpw)];exact hz2))
   ·obtain⟨e1,e2⟩:=hBm c o hc;rw[yQ7 (by rintro rfl;rw[hg] at e1;cases e1),yQ7 e2];exact e1
   ·rw[ISt.put_apply] at hc;split at hc
    ·rename_i e;subst e;exact⟨by rw[ISt.put_same];exact hc,by rw[yQ7 gm];exact gs⟩
    ·rename_i e;rw[ISt.put_apply] at hc;split at hc
     ·rename_i e';subst e';exact⟨by rw[yQ7 e,ISt.put_same];exact hc,by rw[yQ7 n3];exact h6⟩
     ·cases hc
   ·refine .sl g cap ⟨true,.app g,4⟩ zs2 cs2 rfl (by omega) (by omega) hz4 (ISt.put_same ..) (by show cap*4<=_;omega) λi r c hr hc=>?_;have hi:=(lGs hc).1;rw[yQs _ hz4] at hi;rw[<- hc2,List.getElem?_take,if_pos hi,hr] at hc;cases hc;exact .refl _
end Go.Proofs.Tryz
namespace Go.Proofs.Tryz
open Go Go.Iv
theorem zQh (f:Fm):f∈cloF f:=by
 cases f with
 | mk o n us sub =>
  rw[cloF];refine List.mem_append_left _ ?_;unfold yKa;split
  ·simp_all
  ·exact .head _
theorem yUd {g:Fm}:∀ {l:List Fm},g∈yZq l↔∃f∈l,g∈cloF f
 | []=>by simp[yZq]
 | a::l=>by simp only[yZq,List.mem_append,yUd,List.mem_cons];grind
theorem wV7 {o:Nat}{a b g:Fm}(h:g∈yKa (.mk o noN [] [a,b])):g=.mk o noN [] [a,b]\/(o=7/\(g=imF a b\/g=imF b a)):=by
 unfold yKa at h;split at h
 ·rename_i he;cases he;simpa using h
 ·exact .inl (by simpa using h)
theorem zKs {a g:Fm}:g∈cloF (.mk 3 noN [] [a])↔g=.mk 3 noN [] [a]\/g∈cloF a:=by
 simp[cloF,yZq,yKa]
theorem wJp {o:Nat}{a b g:Fm}:g∈cloF (.mk o noN [] [a,b])->g=.mk o noN [] [a,b]\/(o=7/\(g=imF a b\/g=imF b a))\/g∈cloF a\/g∈cloF b:=λh=>by
 simp only[cloF,yZq,List.append_nil,List.mem_append] at h;rcases h with h|h|h
 ·rcases wV7 h with h|h
  ·exact .inl h
  ·exact .inr (.inl h)
 ·exact .inr (.inr (.inl h))
 ·exact .inr (.inr (.inr h))
theorem xU6 {o:Nat}{a b g:Fm}(h:g∈cloF a\/g∈cloF b):g∈cloF (.mk o noN [] [a,b]):=by
 simp only[cloF,yZq,List.append_nil,List.mem_append];exact .inr h
theorem vWu {ca:Nat}{f:Fm}(hf:PF f):fmB ca f=true->∀g∈cloF f,fmB ca g=true:=by
 induction hf with
 | atom n=>intro h g hg;simp[cloF,yZq,yKa] at hg;rw[hg];exact h
 | fls=>intro h g hg;simp[cloF,yZq,yKa] at hg;rw[hg];exact h
 | neg _ ih =>
  intro h g hg;rcases zKs.1 hg with rfl|hg
  ·exact h
  ·exact ih (wJ1 h) g hg
 | bin h4 h7 _ _ iha ihb =>
  intro h g hg;obtain⟨k1,k2,k3,k4⟩:=wJ2 ⟨by omega,h4,h7⟩ h;rcases wJp hg with rfl|⟨_,rfl|rfl⟩|hg|hg
  ·exact h
  ·exact k3
  ·exact k4
  ·exact iha k1 g hg
  ·exact ihb k2 g hg
theorem vZ3 {f:Fm}(hf:PF f):∀g∈cloF f,∀j r,∀t∈addF j g r,∀p∈t.2,(∀x∈p.1,x∈cloF f)/\∀x∈p.2,x∈cloF f:=by
 induction hf with
 | atom n=>intro g hg j r t ht;simp[cloF,yZq,yKa] at hg;subst hg;simp[addF] at ht
 | fls=>intro g hg j r t ht;simp[cloF,yZq,yKa] at hg;subst hg;simp[addF] at ht
 | @neg a _ ih =>
  intro g hg j r t ht p hp;rcases zKs.1 hg with rfl|hg
  ·have ha:a∈cloF (.mk 3 noN [] [a]):=zKs.2 (.inr (zQh a));cases r<;>simp[addF] at ht<;>subst ht<;>simp at hp<;>subst hp<;>simp[ha]
  ·obtain⟨h1,h2⟩:=ih g hg j r t ht p hp;exact⟨λx hx=>zKs.2 (.inr (h1 x hx)),λx hx=>zKs.2 (.inr (h2 x hx))⟩
 | @bin o a b h4 h7 _ _ iha ihb =>
  intro g hg j r t ht p hp;have ha:a∈cloF (.mk o noN [] [a,b]):=xU6 (.inl (zQh a));have hb:b∈cloF (.mk o noN [] [a,b]):=xU6 (.inr (zQh b));have imp:∀c d:Fm,c∈cloF (.mk o noN [] [a,b])->d∈cloF (.mk o noN [] [a,b])->t∈addF j (imF c d) r->(∀x∈p.1,x∈cloF (.mk o noN [] [a,b]))/\∀x∈p.2,x∈cloF (.mk o noN [] [a,b]):=λc d hc hd ht=>by
   cases r<;>simp[addF] at ht<;>subst ht<;>simp at hp
   ·rcases hp with rfl|rfl<;>simp[hc,hd]
   ·subst hp;simp[hc,hd]
  rcases wJp hg with rfl|⟨_,rfl|rfl⟩|hg|hg
  ·obtain rfl|rfl|rfl|rfl:o=4\/o=5\/o=6\/o=7:=by omega
   ·cases r<;>simp[addF] at ht<;>subst ht<;>simp at hp
    ·subst hp;simp[ha,hb]
    ·rcases hp with rfl|rfl<;>simp[ha,hb]
   ·cases r<;>cases j<;>simp[addF] at ht
    ·subst ht;simp at hp;rcases hp with rfl|rfl<;>simp[ha,hb]
    ·subst ht;simp at hp;rcases hp with rfl|rfl<;>simp[ha,hb]
    ·subst ht;simp at hp;subst hp;simp[ha,hb]
    ·rcases ht with rfl|rfl<;>simp at hp<;>subst hp<;>simp[ha,hb]
   ·exact imp a b ha hb ht
   ·have h1:imF a b∈cloF (.mk 7 noN [] [a,b]):=by simp[cloF,yKa]
    have h2:imF b a∈cloF (.mk 7 noN [] [a,b]):=by simp[cloF,yKa]
    cases r<;>simp[addF] at ht<;>subst ht<;>simp at hp
    ·subst hp;simp[h1,h2]
    ·rcases hp with rfl|rfl<;>simp[ha,hb]
  ·exact imp a b ha hb ht
  ·exact imp b a hb ha ht
  ·obtain⟨h1,h2⟩:=iha g hg j r t ht p hp;exact⟨λx hx=>xU6 (.inl (h1 x hx)),λx hx=>xU6 (.inl (h2 x hx))⟩
  ·obtain⟨h1,h2⟩:=ihb g hg j r t ht p hp;exact⟨λx hx=>xU6 (.inr (h1 x hx)),λx hx=>xU6 (.inr (h2 x hx))⟩
theorem wUg (f:Fm):(yKa f).length<=3:=by
 unfold yKa;split<;>simp
mutual
theorem wWv:∀f:Fm,(cloF f).length<=3*f.size
 | .mk o n us sub=>by
  have h1:=wUg (.mk o n us sub);have h2:=zKr sub;simp only[cloF,lLa,Fm.size];omega
theorem zKr:∀l:List Fm,(yZq l).length<=3*yQb l
 | []=>by simp[yZq]
 | a::l=>by
  have h1:=wWv a;have h2:=zKr l;simp only[yZq,lLa,yQb];omega
end
theorem size_le {l:List Fm}{k:Nat}(h:∀f∈l,f.size<=k):yQb l<=l.length*k:=by
 induction l with
 | nil=>simp[yQb]
 | cons a l ih =>
  have h1:=h a (.head _);have h2:=ih λf hf=>h f (.tail _ hf);simp only[yQb,List.length_cons,Nat.add_mul,Nat.one_mul];omega
theorem yG2 {ca:Nat}{s:Sq}(hc:ca=1\/ca=2)(h:yQv ca s=true) :
  SpOk ca (setF (yZq (s.l++s.r)))/\(yZq (s.l++s.r)).length<=200000/\(setF (yZq (s.l++s.r))).length<=200000/\InW (setF (yZq (s.l++s.r))) (s.l,s.r):=by
 unfold yQv at h;simp only[bAt,dTe,List.all_eq_true] at h;obtain⟨⟨⟨⟨⟨_,hl⟩,hr⟩,hfl⟩,hfr⟩,_⟩:=h;have hfm:∀f∈s.l++s.r,fmB ca f=true:=λf hf=>(List.mem_append.1 hf).elim (hfl f) (hfr f);have hc3:ca≠3:=by omega
 have hsz:∀f∈s.l++s.r,f.size<=400:=λf hf=>by
  have:=hfm f hf;unfold fmB Fm.right at this;simp only[bAt,dTe] at this;exact this.1.1.2
 have h1:=zKr (s.l++s.r);have h2:=size_le hsz;rw[lLa] at h2;have h3:(yZq (s.l++s.r)).length<=200000:=by omega
 obtain⟨r,hset,hrl⟩:=xXh (yZq (s.l++s.r));rw[yWg hset];refine⟨⟨hc,hset.1,by omega,λf hf=>?_,λf hf j rr t ht p hp=>?_⟩,h3,by omega,λf hf=>?_,λf hf=>?_⟩
 ·obtain⟨g,hg,hfg⟩:=yUd.1 ((hset.2 f).1 hf);exact vWu (zUz hc3 (hfm g hg)) (hfm g hg) f hfg
 ·obtain⟨g,hg,hfg⟩:=yUd.1 ((hset.2 f).1 hf);obtain⟨k1,k2⟩:=vZ3 (zUz hc3 (hfm g hg)) f hfg j rr t ht p hp;exact⟨λx hx=>(hset.2 x).2 (yUd.2 ⟨g,hg,k1 x hx⟩),λx hx=>(hset.2 x).2 (yUd.2 ⟨g,hg,k2 x hx⟩)⟩
 ·exact (hset.2 f).2 (yUd.2 ⟨f,List.mem_append_left _ hf,zQh f⟩)
 ·exact (hset.2 f).2 (yUd.2 ⟨f,List.mem_append_right _ hf,zQh f⟩)
def mvW (W:List Fm)(v:Mv):Nat×Fm×List Sn:=(v.1,(W[v.2.1]?).getD fm0,v.2.2.map (lnW W))
def mvT (j:Bool)(ln:Ln)(i:Nat)(t:Tn):Mv:=(t.1,i,t.2.map (yUx j ln))
noncomputable def yYi (W:List Fm)(j:Bool)(ln:Ln)(p:Nat×Bool):List Mv:=match W[p.1]? with
 | some f=>(yZr W j f p.2).map (mvT j ln p.1)
 | none=>[]
theorem wZn {ca:Nat}{W:List Fm}(hS:SpOk ca W){ln:Ln}(hln:LnOk W ln)(j:Bool){i:Nat}{f:Fm}(hf:W[i]?=some f)(r:Bool):(yYi W j ln (i,r)).map (mvW W)=zVi j (lnW W ln) r f:=by
 unfold yYi zVi yZr;simp only[hf,List.map_map];refine List.map_congr_left λt ht=>?_;simp only[Function.comp,mvT,mvW,hf,Option.getD_some,List.map_map];refine Prod.ext rfl (Prod.ext rfl ?_);refine List.map_congr_left λp hp=>?_;exact wVm hS.srt hln (hS.full f (lMg hf) j r t ht p hp)
theorem xXf {ca:Nat}{W:List Fm}(hS:SpOk ca W){ln:Ln}(hln:LnOk W ln)(j r:Bool):∀ {l:List Nat},(∀i∈l,i<W.length)->((l.map λi=>(i,r)).flatMap (yYi W j ln)).map (mvW W)=(fmW W l).flatMap (zVi j (lnW W ln) r)
 | [],_=>rfl
 | i::l,h=>by
  obtain⟨f,hf⟩:=yQ1 (h i (.head _));rw[zGp hf,List.map_cons,List.flatMap_cons,List.flatMap_cons,List.map_append,wZn hS hln j hf,xXf hS hln j r λk hk=>h k (.tail _ hk)]
theorem wZj {ca:Nat}{W:List Fm}(hS:SpOk ca W){ln:Ln}(hln:LnOk W ln)(j:Bool):((plcs ln).flatMap (yYi W j ln)).map (mvW W)=mvF j (lnW W ln):=by
 unfold plcs mvF;rw[List.flatMap_append,List.map_append,xXf hS hln j false hln.1.2,xXf hS hln j true hln.2.2];rfl
theorem wZo {W:List Fm}{j:Bool}{ln:Ln}{p:Nat×Bool}{v:Mv}(h:some v∈yXj W j ln p):v∈yYi W j ln p:=by
 unfold yXj at h;unfold yYi;cases hf:W[p.1]? with
 | none=>simp only[hf] at h;cases h
 | some f =>
  simp only[hf] at h ⊢;obtain⟨t,ht,he⟩:=List.mem_map.1 h;refine List.mem_map.2 ⟨t,ht,?_⟩;unfold mvN at he;split at he
  ·cases he
  ·cases he;rfl
theorem wYs {W:List Fm}{j:Bool}{ln:Ln}{v:Mv}(h:some v∈mvsN W j ln):v∈(plcs ln).flatMap (yYi W j ln):=by
 obtain⟨p,hp,h⟩:=List.mem_flatMap.1 h;exact List.mem_flatMap.2 ⟨p,hp,wZo h⟩
theorem wUy {W:List Fm}{j:Bool}{ln:Ln}{l:List (Nat×Bool)}:∀ {vs:List Mv},l.flatMap (yXj W j ln)=vs.map some->l.flatMap (yYi W j ln)=vs:=by
 have one:∀p,(∀o∈yXj W j ln p,o≠none)->yXj W j ln p=(yYi W j ln p).map some:=λp=>by
  unfold yXj yYi;cases W[p.1]? with
  | none=>intro _;rfl
  | some f =>
   simp only[List.map_map];intro h;refine List.map_congr_left λt ht=>?_;have h1:=h _ (List.mem_map_of_mem ht);unfold mvN at h1 ⊢;split
   ·rename_i hx;rw[if_pos hx] at h1;exact absurd rfl h1
   ·rfl
 have some_inj:∀ {a b:List Mv},a.map some=b.map some->a=b:=λ{a b} h=>by
  have h1:=congrArg (List.filterMap id) h;simpa[List.filterMap_map] using h1
 intro vs h;have hn:∀p∈l,∀o∈yXj W j ln p,o≠none:=λp hp o ho he=>by
  have:o∈vs.map some:=h▸List.mem_flatMap.2 ⟨p,hp,ho⟩;obtain⟨v,_,rfl⟩:=List.mem_map.1 this;cases he
 refine some_inj ?_;rw[<- h];clear h
 induction l with
 | nil=>rfl
 | cons a l ih =>
  rw[List.flatMap_cons,List.flatMap_cons,List.map_append,one a (hn a (.head _)),ih λp hp=>hn p (.tail _ hp)]
theorem xXx {ca:Nat}{W:List Fm}(hS:SpOk ca W){ln:Ln}(hln:LnOk W ln){j:Bool}{vs:List Mv}(h:mvsN W j ln=vs.map some):mvF j (lnW W ln)=vs.map (mvW W):=by
 rw[<- wZj hS hln,wUy h]
theorem zXc {ca:Nat}{W:List Fm}(hS:SpOk ca W){ln:Ln}(hln:LnOk W ln){j:Bool}:none∈mvsN W j ln↔zG2 j (lnW W ln):=by
 have at_:∀i r f,W[i]?=some f->(none∈yXj W j ln (i,r)↔∃t∈addF j f r,∃p∈t.2,tooL j (lnW W ln) p):=λi r f hf=>by
  unfold yXj yZr;simp only[hf,List.map_map,List.mem_map,Function.comp];constructor
  ·rintro⟨t,ht,he⟩;unfold mvN at he;split at he
   ·rename_i hx;obtain⟨e,he1,he2⟩:=List.any_eq_true.1 hx;obtain⟨p,hp,rfl⟩:=List.mem_map.1 he1;exact⟨t,ht,p,hp,(wQ2 hln).1 he2⟩
   ·cases he
  ·rintro⟨t,ht,p,hp,hl⟩;refine⟨t,ht,?_⟩;unfold mvN;rw[if_pos (List.any_eq_true.2 ⟨_,List.mem_map_of_mem hp,(wQ2 hln).2 hl⟩)]
 unfold mvsN zG2;rw[List.mem_flatMap];constructor
 ·rintro⟨⟨i,r⟩,hp,h⟩;have hm:(r=false/\i∈ln.1)\/(r=true/\i∈ln.2):=by
   rcases List.mem_append.1 hp with hp|hp<;>obtain⟨k,hk,he⟩:=List.mem_map.1 hp<;>cases he
   ·exact .inl ⟨rfl,hk⟩
   ·exact .inr ⟨rfl,hk⟩
  rcases hm with⟨rfl,hi⟩|⟨rfl,hi⟩
  ·obtain⟨f,hf⟩:=hln.1.get hi;exact⟨f,false,yZl.2 ⟨i,hi,hf⟩,(at_ i _ f hf).1 h⟩
  ·obtain⟨f,hf⟩:=hln.2.get hi;exact⟨f,true,yZl.2 ⟨i,hi,hf⟩,(at_ i _ f hf).1 h⟩
 ·rintro⟨f,r,hf,h⟩;cases r
  ·obtain⟨i,hi,hf⟩:=yZl.1 hf;exact⟨(i,false),List.mem_append_left _ (List.mem_map.2 ⟨i,hi,rfl⟩),(at_ i _ f hf).2 h⟩
  ·obtain⟨i,hi,hf⟩:=yZl.1 hf;exact⟨(i,true),List.mem_append_right _ (List.mem_map.2 ⟨i,hi,rfl⟩),(at_ i _ f hf).2 h⟩
theorem xVb {ca:Nat}{W:List Fm}(hS:SpOk ca W){ln p:Ln}(hln:LnOk W ln){s0:Sn}(h:yVh W (calJ ca) ln p)(hr:Rch (calJ ca) s0 (lnW W ln))(hc:¬ clN W ln):Rch (calJ ca) s0 (lnW W p)/\LnOk W p/\p.1.length<=64/\p.2.length<=64:=by
 obtain⟨v,hv,hp⟩:=h;obtain⟨h1,h2,h3⟩:=(zXd hS hln hv).2.2.2 p hp;refine⟨.step hr (λh=>hc ((zZw hS.srt hln).2 h)) (m:=mvW W v) ?_ (List.mem_map_of_mem hp),h1,h2,h3⟩;rw[<- wZj hS hln];exact List.mem_map_of_mem (wYs hv)
def LkS (W:List Fm)(j:Bool)(lines:List Ln)(ln:Ln)(l:List Lk):Prop:=(clN W ln/\l=[])\/(¬ clN W ln/\∃vs,mvsN W j ln=vs.map some/\LksOf lines vs l)
theorem LkS.app {W:List Fm}{j:Bool}{lines more:List Ln}{ln:Ln}{l:List Lk}(h:LkS W j lines ln l):LkS W j (lines++more) ln l :=
 h.imp id λ⟨h1,vs,h2,h3⟩=>⟨h1,vs,h2,h3.app⟩
structure ExS (ca:Nat)(W:List Fm)(s0:Sn)(lines:List Ln)(links:List (List Lk)):Prop where
 start:∃ln,lines[0]?=some ln/\lnW W ln=s0
 ok:∀ln∈lines,LnOk W ln
 rch:∀ln∈lines,Rch (calJ ca) s0 (lnW W ln)
 done:∀(k:Nat) (l:List Lk),links[k]?=some l->∃ln,lines[k]?=some ln/\LkS W (calJ ca) lines ln l
 len:lines.length<=20000
theorem ExS.add {ca:Nat}{W:List Fm}{s0:Sn}{lines:List Ln}{links:List (List Lk)}(h:ExS ca W s0 lines links)(hS:SpOk ca W){ln:Ln}(hl:lines[links.length]?=some ln){l:List Lk}{more:List Ln}(hk:LkS W (calJ ca) (lines++more) ln l)
  (hm:more=[]\/¬ clN W ln) (hp:∀p∈more,yVh W (calJ ca) ln p) (hlen:(lines++more).length<=20000):ExS ca W s0 (lines++more) (links++[l]):=by
 have hlm:=lMg hl;have hpr:∀p∈more,Rch (calJ ca) s0 (lnW W p)/\LnOk W p:=λp hx=>by
  rcases hm with rfl|hc
  ·cases hx
  ·obtain⟨h1,h2,_⟩:=xVb hS (h.ok ln hlm) (hp p hx) (h.rch ln hlm) hc;exact⟨h1,h2⟩
 have app:∀ {k:Nat} {a:Ln},lines[k]?=some a->(lines++more)[k]?=some a:=λ{k a} hk=>by
  rw[List.getElem?_append_left (lGs hk).1];exact hk
 refine⟨?_,λp hx=>?_,λp hx=>?_,λk l' hk'=>?_,hlen⟩
 ·obtain⟨a,ha,hs⟩:=h.start;exact⟨a,app ha,hs⟩
 ·exact (List.mem_append.1 hx).elim (h.ok p) λhx=>(hpr p hx).2
 ·exact (List.mem_append.1 hx).elim (h.rch p) λhx=>(hpr p hx).1
 ·rcases Nat.lt_or_ge k links.length with hlt|hge
  ·rw[List.getElem?_append_left hlt] at hk';obtain⟨a,ha,hs⟩:=h.done k l' hk';exact⟨a,app ha,hs.app⟩
  ·rw[List.getElem?_append_right hge] at hk';have h0:k-links.length=0:=by
    rcases Nat.eq_zero_or_pos (k-links.length) with h0|h0
    ·exact h0
    ·rw[List.getElem?_eq_none (by simp only[List.length_cons,List.length_nil];omega)] at hk';cases hk'
   rw[h0] at hk';cases hk';obtain rfl:k=links.length:=by omega
   exact⟨ln,app hl,hk⟩
theorem ExS.reach {ca:Nat}{W:List Fm}{s0:Sn}{lines:List Ln}{links:List (List Lk)}(h:ExS ca W s0 lines links)(hS:SpOk ca W)(hn:lines.Nodup)(hl:lines.length<=links.length):ReachOk (calJ ca) s0 (lines.map (lnW W)):=by
 have hdone:∀ln∈lines,∃l,LkS W (calJ ca) lines ln l:=λln hm=>by
  obtain⟨k,hk,rfl⟩:=List.mem_iff_getElem.1 hm;obtain⟨a,ha,hs⟩:=h.done k _ (List.getElem?_eq_getElem (Nat.lt_of_lt_of_le hk hl));rw[List.getElem?_eq_getElem hk] at ha;cases ha;exact⟨_,hs⟩
 refine⟨?_,λs=>⟨λhs=>?_,λhs=>?_⟩,λs hs hc=>?_,by rw[List.length_map];exact h.len⟩
 ·rw[List.nodup_iff_pairwise_ne,List.pairwise_map];exact hn.imp_of_mem λ{a b} ha hb hne he=>hne (wZw hS.srt (h.ok a ha) (h.ok b hb) he)
 ·obtain⟨ln,hm,rfl⟩:=List.mem_map.1 hs;exact h.rch ln hm
 ·induction hs with
  | refl =>
   obtain⟨a,ha,hs⟩:=h.start;exact List.mem_map.2 ⟨a,lMg ha,hs⟩
  | @step s _ hc m hm p hp ih =>
   obtain⟨ln,hlm,rfl⟩:=List.mem_map.1 ih;obtain⟨l,⟨hcl,_⟩|⟨_,vs,hvs,hlk⟩⟩:=hdone ln hlm
   ·exact absurd ((zZw hS.srt (h.ok ln hlm)).1 hcl) hc
   ·rw[xXx hS (h.ok ln hlm) hvs] at hm;obtain⟨v,hv,rfl⟩:=List.mem_map.1 hm;obtain⟨q,hq,rfl⟩:=List.mem_map.1 hp;obtain⟨i,hi,hvi⟩:=List.mem_iff_getElem.1 hv;obtain⟨k,hk,hlo⟩:=hlk.2 i v (by rw[List.getElem?_eq_getElem hi,hvi]);obtain⟨e,he,hqe⟩:=List.mem_iff_getElem.1 hq;have hek:e<k.2.2.length:=by rw[hlo.2.2.1];exact he
    obtain⟨p',hp1,hp2⟩:=hlo.2.2.2 e _ (List.getElem?_eq_getElem hek);rw[List.getElem?_eq_getElem he,hqe] at hp2;cases hp2;exact List.mem_map.2 ⟨q,lMg hp1,rfl⟩
 ·obtain⟨ln,hlm,rfl⟩:=List.mem_map.1 hs;obtain⟨l,⟨hcl,_⟩|⟨_,vs,hvs,_⟩⟩:=hdone ln hlm
  ·exact absurd ((zZw hS.srt (h.ok ln hlm)).1 hcl) hc
  ·intro hlo;have:=(zXc hS (h.ok ln hlm)).2 hlo;rw[hvs] at this;simp at this
theorem ExS.no5 {ca:Nat}{W:List Fm}{s0:Sn}{lines:List Ln}{links:List (List Lk)}(h:ExS ca W s0 lines links)(hS:SpOk ca W){ln:Ln}(hl:ln∈lines)(hc:¬ clN W ln)(hn:none∈mvsN W (calJ ca) ln):zZi (calJ ca) s0 5 :=
 .inr ⟨rfl,lnW W ln,h.rch ln hl,λhx=>hc ((zZw hS.srt (h.ok ln hl)).2 hx),(zXc hS (h.ok ln hl)).1 hn⟩
theorem ExS.no4 {ca:Nat}{W:List Fm}{s0:Sn}{lines:List Ln}{links:List (List Lk)}(h:ExS ca W s0 lines links)(hS:SpOk ca W){ln:Ln}(hl:ln∈lines)(hc:¬ clN W ln){more:List Ln}{p:Ln}(hm:∀q∈more,yVh W (calJ ca) ln q)(hp:yVh W (calJ ca) ln p)
  (hpn:p ∉ lines++more) (hn:(lines++more).Nodup) (hlen:20000<=(lines++more).length):zZi (calJ ca) s0 4:=by
 have hall:∀q∈lines++more++[p],Rch (calJ ca) s0 (lnW W q)/\LnOk W q:=λq hq=>by
  have pr:∀q,yVh W (calJ ca) ln q->Rch (calJ ca) s0 (lnW W q)/\LnOk W q:=λq hq=>by
   obtain⟨h1,h2,_⟩:=xVb hS (h.ok ln hl) hq (h.rch ln hl) hc;exact⟨h1,h2⟩
  rcases List.mem_append.1 hq with hq|hq
  ·rcases List.mem_append.1 hq with hq|hq
   ·exact⟨h.rch q hq,h.ok q hq⟩
   ·exact pr q (hm q hq)
  ·rw[List.mem_singleton.1 hq];exact pr p hp
 have hnd:(lines++more++[p]).Nodup:=List.nodup_append.2 ⟨hn,by simp,λa ha b hb=>by
  rw[List.mem_singleton.1 hb];rintro rfl;exact hpn ha⟩
 refine .inl ⟨rfl,(lines++more++[p]).map (lnW W),?_,λs hs=>?_,by rw[List.length_map,lLa];simp only[List.length_cons,List.length_nil];omega⟩
 ·rw[List.nodup_iff_pairwise_ne,List.pairwise_map];exact hnd.imp_of_mem λ{a b} ha hb hne he=>hne (wZw hS.srt (hall a ha).2 (hall b hb).2 he)
 ·obtain⟨q,hq,rfl⟩:=List.mem_map.1 hs;exact (hall q hq).1
end Go.Proofs.Tryz
namespace Go.Proofs.Tryz
open Go Go.Iv
set_option maxRecDepth 4000
variable (gl:Nat->Option IV)
noncomputable abbrev spW (s:Sq):List Fm:=setF (yZq (s.l++s.r))
theorem zQp {ca:Nat}{s:Sq}(h:yQv ca s=true):s.l.length<=64/\s.r.length<=64:=by
 unfold yQv at h;simp only[bAt,dTe] at h;exact⟨h.1.1.1.1.2,h.1.1.1.2⟩
theorem xK1 (G:Gl gl)(ca:Nat)(s:Sq)(x:IV)(hx:IsSq s x)(hs:yJm s)(st:ISt) :
  ICall prog gl 73 [.raw (.int .u8 (ca:Int)),x] st (λr st' =>
   (¬ (ca=1\/ca=2)/\r=.tup [.raw (.pointer none),.raw (.int .i64 2)]/\st'=st)\/((ca=1\/ca=2)/\yQv ca s=false/\r=.tup [.raw (.pointer none),.raw (.int .i64 190)]/\st'=st) \/
   ((ca=1\/ca=2)/\yQv ca s=true/\∃m tw xw,st m=none/\okEs tw 4/\IsFms (spW s) xw/\r=.tup [spI ca tw xw m,.raw (.int .i64 0)]/\st'=st.put m (some (.map .pl [])))):=by
 have hv:=λst=>xKb gl G ca s x hx hs st;have hn:=xGc gl ca s x hx;obtain⟨t1,x1,t2,x2,rfl,e1,i1,e2,i2⟩:=id hx;refine iI func73 ?_;by_cases h1:ca=1
 ·have h1':decide ((ca:Int)=1)=true:=dEt (by omega);have hc:ca=1\/ca=2:=.inl h1;simp only[go_sem,zE,zA,zL,reduceCtorEq,h1'];refine (hv _).mono ?_;rintro _ st ⟨rfl,rfl⟩;rcases Bool.eq_false_or_eq_true (yQv ca s) with hb|hb
  ·obtain⟨_,hcl,_,_⟩:=yG2 (ca:=ca) (s:=s) hc hb;simp only[go_sem,zE,zA,zL,reduceCtorEq,show Value.bool (yQv ca s)=.bool true by rw[hb]];refine (hn (Nat.le_trans hcl (by omega)) _).mono ?_;rintro _ _ ⟨m,tw,xw,hm,htw,hxw,rfl,rfl⟩;simp only[go_sem,zE];exact yQ0 (.inr (.inr ⟨hc,hb,m,tw,xw,hm,htw,hxw,rfl,rfl⟩))
  ·simp only[go_sem,zE,show Value.bool (yQv ca s)=.bool false by rw[hb]];exact yQ0 (.inr (.inl ⟨hc,hb,rfl,rfl⟩))
 ·have h1':decide ((ca:Int)=1)=false:=dEf (by omega);by_cases h2:ca=2
  ·have h2':decide ((ca:Int)=2)=true:=dEt (by omega);have hc:ca=1\/ca=2:=.inr h2;simp only[go_sem,zE,zA,zL,reduceCtorEq,h1',h2'];refine (hv _).mono ?_;rintro _ st ⟨rfl,rfl⟩;rcases Bool.eq_false_or_eq_true (yQv ca s) with hb|hb
   ·obtain⟨_,hcl,_,_⟩:=yG2 (ca:=ca) (s:=s) hc hb;simp only[go_sem,zE,zA,zL,reduceCtorEq,show Value.bool (yQv ca s)=.bool true by rw[hb]];refine (hn (Nat.le_trans hcl (by omega)) _).mono ?_;rintro _ _ ⟨m,tw,xw,hm,htw,hxw,rfl,rfl⟩;simp only[go_sem,zE];exact yQ0 (.inr (.inr ⟨hc,hb,m,tw,xw,hm,htw,hxw,rfl,rfl⟩))
   ·simp only[go_sem,zE,show Value.bool (yQv ca s)=.bool false by rw[hb]];exact yQ0 (.inr (.inl ⟨hc,hb,rfl,rfl⟩))
  ·have h2':decide ((ca:Int)=2)=false:=dEf (by omega);simp only[go_sem,zE,reduceCtorEq,h1',h2'];exact yQ0 (.inl ⟨by omega,rfl,rfl⟩)
theorem vQ1:mapI prog 102=some (.str,.raw (.int .i32 0)):=by kernel_rfl
def ExplR (ca:Nat)(s:Sq)(st:ISt)(r:IV)(st':ISt):Prop :=
 (¬ (ca=1\/ca=2)/\r=.tup [.raw (.pointer none),.raw (.int .i64 2)]/\st'=st)\/((ca=1\/ca=2)/\yQv ca s=false/\r=.tup [.raw (.pointer none),.raw (.int .i64 190)]/\st'=st) \/
 ((ca=1\/ca=2)/\yQv ca s=true/\((∃e,zZi (calJ ca) (nf (s.l,s.r)) e/\r=.tup [.raw (.pointer none),.raw (.int .i64 (e:Int))]/\st'=st) \/
  ∃m tw xw rb mN lines links,okEs tw 4/\IsFms (spW s) xw/\r=.tup [ptr rb,.raw (.int .i64 0)]/\RS ca m (spW s) tw xw rb mN st st' lines links/\ExS ca (spW s) (nf (s.l,s.r)) lines links/\links.length=lines.length))
theorem RS.link {ca m:Nat}{W:List Fm}{tw:Tag}{xw:List IV}{rb mN:Nat}{S0 st st':ISt}{lines:List Ln}{links:List (List Lk)}(h:RS ca m W tw xw rb mN S0 st lines links){tl tk:Tag}{xl xk:List IV}{l:List Lk}{x:IV}(hx:wY9 l x)
  (hrb:st rb=some (.box [spI ca tw xw m,.sl tl xl,.raw (.map (some mN)),.sl tk xk,.sl ⟨true,.nil,0⟩ []])) (hxl:AllR IsLn lines xl) (hol:own st tl lines.length 2 S0) (hxk:AllR wY9 links xk) {tk':Tag} (hok:own st' tk' (links.length+1) 1 S0) (hsub:subSt S0 st') (hkf:keepF 1 st st') :
  RS ca m W tw xw rb mN S0 (st'.put rb (some (.box [spI ca tw xw m,.sl tl xl,.raw (.map (some mN)),.sl tk' (xk++[x]),.sl ⟨true,.nil,0⟩ []]))) lines (links++[l]):=by
 obtain⟨es0,he0,hc0⟩:=h.sp;have hn:=h.num;have h1:rb≠m:=by rintro rfl;rw[hrb] at he0;cases he0
 have h2:rb≠mN:=by rintro rfl;rw[hrb] at hn;cases hn
 have hr':=hkf rb _ hrb (λn h=>by cases h);have put:∀ {t:Tag} {n k:Nat},own st' t n k S0->own (st'.put rb (some (.box [spI ca tw xw m,.sl tl xl,.raw (.map (some mN)),.sl tk' (xk++[x]),.sl ⟨true,.nil,0⟩ []]))) t n k S0:=λho=>ho.mono λg hg _=>by
  rw[yQ7 λe=>by rw[e,hr'] at hg;cases hg];exact hg
 refine⟨⟨tl,xl,tk',_,ISt.put_same ..,hxl,put (hkf.own hol (by decide)),hxk.snoc hx,by rw[lLa];exact put hok⟩,?_,⟨es0,?_,hc0⟩,yQa hsub h.off.1,h.off,h.ok,h.nd⟩
 ·rw[yQ7 h2.symm];exact hkf _ _ hn λn h=>by cases h
 ·rw[yQ7 h1.symm];exact hkf _ _ he0 λn h=>by cases h
theorem wJ7 (G:Gl gl)(T:Gt gl)(ca:Nat)(s:Sq)(x:IV)(hx:IsSq s x)(hs:yJm s)(st:ISt):ICall prog gl 53 [.raw (.int .u8 (ca:Int)),x] st (ExplR ca s st):=by
 have hb:=λst=>xK1 gl G ca s x hx hs st;have hx0:=hx;obtain⟨t1,x1,t2,x2,rfl,e1,i1,e2,i2⟩:=hx;refine ICall.intro (c:=cf prog gl [26] []) func53 rfl (by show _<=76;simp) (by kernel_rfl) ?_;simp only[go_sem,zE,zA,zL,reduceCtorEq];refine (hb _).mono ?_;rintro _ st1 (⟨hc,rfl,rfl⟩|⟨hc,hv,rfl,rfl⟩|⟨hc,hv,m,tw,xw,hm,htw,hxw,rfl,rfl⟩)
 ·simp only[go_sem,zE,show decide ((2:Int)=0)=false from rfl];exact yQ0 (show ExplR _ _ _ _ _ from .inl ⟨hc,rfl,rfl⟩)
 ·simp only[go_sem,zE,show decide ((190:Int)=0)=false from rfl];exact yQ0 (show ExplR _ _ _ _ _ from .inr (.inl ⟨hc,hv,rfl,rfl⟩))
 ·obtain⟨hS,_,hWs,hin⟩:=yG2 hc hv;have hfit:=zQp hv;have hln:=zG3 hin;have hline:=λst=>xVw gl T ca m (spW s) tw xw htw hxw hS.srt (Nat.le_trans hWs (by omega)) s _ hx0 ⟨by omega,by omega⟩ hin st;simp only[go_sem,zE,zA,zL,fits,vQ1,decide_true];refine λmN=>yQ9 λhmN=>λrb=>yQ9 λhrb=>?_;refine (hline _).mono ?_;rintro z _ ⟨hz,rfl⟩;have n1:mN≠m:=by rintro rfl;rw[ISt.put_same] at hmN;cases hmN
  rw[yQ7 n1] at hmN;have n2:rb≠mN:=by rintro rfl;rw[ISt.put_same] at hrb;cases hrb
  rw[yQ7 n2] at hrb;have n3:rb≠m:=by rintro rfl;rw[ISt.put_same] at hrb;cases hrb
  rw[yQ7 n3] at hrb;have hR0:RS ca m (spW s) tw xw rb mN st (((st.put m (some (.map .pl []))).put mN (some (.map .str []))).put rb (some (.box [spI ca tw xw m,.sl ⟨true,.nil,0⟩ [],.raw (.map (some mN)),.sl ⟨true,.nil,0⟩ [],.sl ⟨true,.nil,0⟩ []]))) [] [] :=
   ⟨⟨_,_,_,_,ISt.put_same ..,AllR.nil,own.nil ..,AllR.nil,own.nil ..⟩,by rw[yQ7 n2.symm,ISt.put_same];rfl,⟨[],by rw[yQ7 n3.symm,yQ7 n1.symm,ISt.put_same],(λp hp=>by cases hp)⟩,
    yQa (yQa (yQh hm) hmN) hrb,⟨hrb,hmN,hm⟩,(λ_ h=>by cases h),List.nodup_nil⟩
  have hle1:=yG6 (spW s) s.l;have hle2:=yG6 (spW s) s.r;obtain⟨kk1,kk2⟩:=xW3 (Nat.le_trans hWs (by omega)) hln ⟨Nat.le_trans hle1 hfit.1,Nat.le_trans hle2 hfit.2⟩;have hfc:=wGa gl ca m (spW s) tw xw rb mN st _ [] [] hR0 (zG4 (spW s) (s.l,s.r)) kk1 kk2 z hz (Nat.zero_le _);obtain⟨ta,tb,rfl,ea,eb⟩:=id hz;simp only[go_sem,zE,zA];refine hfc.mono ?_;rintro _ s1 (⟨n,hn,_⟩|⟨_,⟨hge,_⟩|⟨_,rfl,hR1,_⟩⟩)
  ·simp at hn
  ·simp at hge
  ·have hE0:ExS ca (spW s) (nf (s.l,s.r)) ([]++[zG4 (spW s) (s.l,s.r)]) []:=by
    refine⟨⟨_,rfl,zXh hS.srt hin⟩,λp hp=>?_,λp hp=>?_,λk l hk=>by simp at hk,by simp⟩
    ·rw[List.mem_singleton.1 hp];exact hln
    ·rw[List.mem_singleton.1 hp,zXh hS.srt hin];exact .refl
   generalize []++[zG4 (spW s) (s.l,s.r)]=lines0 at hR1 hE0;simp only[go_sem];refine LoopC.dec 20001 (λq fr st' ds=>∃lines links,q+links.length=20001/\RS ca m (spW s) tw xw rb mN st st' lines links/\ExS ca (spW s) (nf (s.l,s.r)) lines links/\fr 6=.iv (spI ca tw xw m)/\fr 8=.iv (ptr rb)/\fr 9=.iv (.raw (.int .i64 (links.length:Int)))/\ds=[]) ?_ ?_
   ·simp only[go_sem,zE];exact⟨lines0,[],rfl,hR1,hE0,rfl⟩
   ·rintro q fr s2 _ ⟨lines,links,hq,hR,hE,f6,f8,f9,rfl⟩;obtain⟨tl,xl,tk,xk,hrb,hxl,hol,hxk,hok⟩:=hR.ex;have hkl:links.length<=lines.length:=by
     rcases Nat.lt_or_ge lines.length links.length with h|h
     ·obtain⟨a,ha,_⟩:=hE.done lines.length _ (List.getElem?_eq_getElem h);rw[List.getElem?_eq_none (Nat.le_refl _)] at ha;cases ha
     ·exact h
    have hxll:=hxl.1;rcases Nat.lt_or_ge links.length lines.length with hlt|hge
    ·obtain⟨ln,hln⟩:=yQ1 hlt;have hlm:=lMg hln;have hlok:=hE.ok ln hlm;obtain⟨z,hz,hzl⟩:=hxl.2 _ ln hln;have hax:=λst=>xK2 gl ca m (spW s) hS tw xw htw hxw ln hlok z hzl st;have hex:=wWi gl G T ca m (spW s) hS hWs tw xw htw hxw rb mN st s2 lines links hR hE.len links.length ln hln hlok;obtain⟨ta,tb,rfl,ea,eb⟩:=hzl;simp only[go_sem,zE,zB,zA,f6,f8,f9,hrb,fits,lt_i (show links.length<xl.length by omega),hz,iNn,yQ4 hol.es];intro _;refine (hax _).mono ?_;rintro _ s2 ⟨⟨zf,rfl,hzf⟩,rfl⟩;obtain⟨y1,y2,y3,y4,y5,y6,rfl⟩:=hzf.agg;have hcl:=wJr (W:=spW s) hlok.1;rcases Bool.eq_false_or_eq_true (axW (spW s) ln).isSome with hax1|hax1
     ·have hcn:=hcl.1 hax1;simp only[go_sem,zE,zA,zM,zL,fits,hax1,f8,hrb,yQ3];refine yZf hok hxk.1 hR.base rfl (by simp[fits,IV.one]) (by simp only;omega) (by omega) λtk' s3 w1 w2 w3=>?_;have hrb3:=w3 rb _ hrb (λn h=>by cases h);simp only[go_sem,zE,zA,zL,f6,f8,f9,hrb3];have hE':=hE.add hS hln (l:=[]) (more:=[]) (.inl ⟨hcn,rfl⟩) (.inl rfl) (λp hp=>by cases hp) (by rw[List.append_nil];exact hE.len);rw[List.append_nil] at hE';have hk:=hE.len;exact⟨q-1,by omega,lines,links++[[]],by rw[lLa];simp only[List.length_cons,List.length_nil];omega,hR.link ⟨_,[],rfl,.inl rfl,AllR.nil⟩ hrb hxl hol hxk w1 w2 w3,hE',by rw[yQd hlt (by omega),lLa];rfl⟩
     ·have hcn:¬ clN (spW s) ln:=λh=>by rw[hcl.2 h] at hax1;cases hax1
      simp only[go_sem,zE,zA,zL,hax1,f8,f9];refine hex.mono ?_;rintro _ s3 (⟨t,ys,L,vs,more,rfl,ht,hys,hvs,hlk,hpm,hlm2,hR3⟩|⟨rfl,hno,hsub⟩|⟨rfl,hsub,more,p,g1,g2,g3,g4,g5⟩)
      ·obtain⟨tl3,xl3,tk3,xk3,hrb3,hxl3,hol3,hxk3,hok3⟩:=hR3.ex;simp only[go_sem,zE,zA,zM,zL,decide_true,f8,hrb3,fits,yQ3];refine yZf hok3 hxk3.1 hR3.base rfl (by simp[fits,IV.one]) (by simp only;omega) (by omega) λtk' s4 w1 w2 w3=>?_;have hrb4:=w3 rb _ hrb3 (λn h=>by cases h);simp only[go_sem,zE,zA,zL,f6,f8,f9,hrb4];have hE':=hE.add hS hln (l:=L) (more:=more) (.inr ⟨hcn,vs,hvs,hlk⟩) (.inr hcn) hpm hlm2;have hk:=hE.len;exact⟨q-1,by omega,lines++more,links++[L],by rw[lLa];simp only[List.length_cons,List.length_nil];omega,hR3.link ⟨_,ys,rfl,ht,hys⟩ hrb3 hxl3 hol3 hxk3 w1 w2 w3,hE',by rw[yQd hlt (by omega),lLa];rfl⟩
      ·simp only[go_sem,zE,show decide ((5:Int)=0)=false from rfl];exact⟨st,hsub,.inr (.inr ⟨hc,hv,.inl ⟨5,hE.no5 hS hlm hcn hno,rfl,rfl⟩⟩)⟩
      ·simp only[go_sem,zE,show decide ((4:Int)=0)=false from rfl];exact⟨st,hsub,.inr (.inr ⟨hc,hv,.inl ⟨4,hE.no4 hS hlm hcn g1 g2 g3 g4 g5,rfl,rfl⟩⟩)⟩
    ·have hge':¬ links.length<xl.length:=by omega
     simp only[go_sem,zE,f8,f9,hrb,yQl hge'];intro _;exact yQ0 (show ExplR _ _ _ _ _ from .inr (.inr ⟨hc,hv,.inr ⟨m,tw,xw,rb,mN,lines,links,htw,hxw,rfl,hR,hE,by omega⟩⟩))
end Go.Proofs.Tryz
namespace Go.Proofs.Tryz
open Go Go.Iv
def evK (u:Us)(ps:List Nat):List (Nat×Us):=ps.map λp=>(p,u)
def evL (i:Nat)(l:List Lk):List (Nat×Us):=l.zipIdx.flatMap λkj=>evK (i,kj.2) kj.1.2.2
def evA (links:List (List Lk)):List (Nat×Us):=links.zipIdx.flatMap λli=>evL li.2 li.1
def UsOk (us:List (List Us))(E:List (Nat×Us)):Prop:=∀p u,(usAt us p).count u=E.count (p,u)
theorem xJu {α β:Type} [BEq β] [LawfulBEq β](F:α×Nat->List β)(tag:β->Nat)(hF:∀a i,∀x∈F (a,i),tag x=i)(b:β):∀(l:List α) (k:Nat),((l.zipIdx k).flatMap F).count b=if k<=tag b then ((l[tag b-k]?).elim 0 λa=>(F (a,tag b)).count b) else 0
 | [],k=>by simp
 | a::l,k=>by
  rw[List.zipIdx_cons,List.flatMap_cons,List.count_append,xJu F tag hF b l (k+1)];by_cases h1:tag b=k
  ·rw[if_neg (by omega),if_pos (by omega),h1,Nat.sub_self];rfl
  ·have h0:(F (a,k)).count b=0:=List.count_eq_zero.2 λhb=>h1 (hF a k b hb);rw[h0,Nat.zero_add];by_cases h2:k<=tag b
   ·rw[if_pos (by omega),if_pos h2,show tag b-k=(tag b-(k+1))+1 by omega,List.getElem?_cons_succ]
   ·rw[if_neg (by omega),if_neg h2]
theorem xKg {α β:Type}(F:α×Nat->List β){l:List α}{i:Nat}{a:α}(h:l[i]?=some a):(l.take (i+1)).zipIdx.flatMap F=(l.take i).zipIdx.flatMap F++F (a,i):=by
 have hi:=(lGs h).1;rw[yQ8 h,List.zipIdx_append,List.flatMap_append,List.length_take,Nat.zero_add,Nat.min_eq_left (by omega)];simp
theorem wWl {links:List (List Lk)}{i:Nat}{l:List Lk}(h:links[i]?=some l):evA (links.take (i+1))=evA (links.take i)++evL i l:=xKg _ h
theorem wWj {i j:Nat}{l:List Lk}{k:Lk}(h:l[j]?=some k):evL i (l.take (j+1))=evL i (l.take j)++evK (i,j) k.2.2:=xKg _ h
theorem wWk {u:Us}{ps:List Nat}{q p:Nat}(h:ps[q]?=some p):evK u (ps.take (q+1))=evK u (ps.take q)++[(p,u)]:=by
 unfold evK;rw[yQ8 h,List.map_append];rfl
theorem vQs (links:List (List Lk))(p:Nat)(u:Us):(evA links).count (p,u)=(lkAt links u).count p:=by
 have hK:∀(u v:Us) (ps:List Nat),(evK v ps).count (p,u)=if v=u then ps.count p else 0:=λu v ps=>by
  unfold evK
  induction ps with
  | nil=>simp
  | cons a ps ih =>
   rw[List.map_cons,List.count_cons,ih,List.count_cons];by_cases h:v=u
   ·subst h;by_cases h2:a=p
    ·simp[h2]
    ·simp[h2]
   ·simp[h]
 have h1:=xJu (λli:List Lk×Nat=>evL li.2 li.1) (λx:Nat×Us=>x.2.1) (λa i x hx=>by
  obtain⟨kj,_,hx⟩:=List.mem_flatMap.1 hx;obtain⟨q,_,rfl⟩:=List.mem_map.1 hx;rfl) (p,u) links 0
 unfold evA;rw[h1,if_pos (Nat.zero_le _),Nat.sub_zero];unfold lkAt;cases hl:links[u.1]? with
 | none=>simp[]
 | some l =>
  simp only[Option.elim_some,Option.getD_some];have h2:=xJu (λkj:Lk×Nat=>evK (u.1,kj.2) kj.1.2.2) (λx:Nat×Us=>x.2.2) (λa i x hx=>by
   obtain⟨q,_,rfl⟩:=List.mem_map.1 hx;rfl) (p,u) l 0
  unfold evL;rw[h2,if_pos (Nat.zero_le _),Nat.sub_zero];cases hk:l[u.2]? with
  | none=>simp[]
  | some k =>
   simp only[Option.elim_some];rw[hK,if_pos rfl]
theorem UsOk.nil (n:Nat):UsOk (List.replicate n []) []:=λp u=>by
 have:usAt (List.replicate n []) p=[]:=by
  unfold usAt;rw[List.getElem?_replicate];split<;>rfl
 rw[this];rfl
theorem UsOk.add {us:List (List Us)}{E:List (Nat×Us)}(h:UsOk us E){p:Nat}{u:Us}(hp:p<us.length):UsOk (us.set p (usAt us p++[u])) (E++[(p,u)]):=λp' u'=>by
 have hs:usAt (us.set p (usAt us p++[u])) p'=if p'=p then usAt us p++[u] else usAt us p':=by
  unfold usAt;rw[List.getElem?_set];by_cases e:p=p'
  ·subst e;simp[hp]
  ·rw[if_neg e,if_neg λh=>e h.symm]
 rw[hs,List.count_append,<- h p' u'];by_cases e:p'=p
 ·subst e;rw[if_pos rfl,List.count_append];congr 1;by_cases e2:u=u'
  ·subst e2;simp
  ·simp[e2]
 ·rw[if_neg e];have:[(p,u)].count (p',u')=0:=by simp[Ne.symm e]
  rw[this,Nat.add_zero]
def wsOf (links:List (List Lk)):List (List Nat):=links.map λl=>l.map λk=>k.2.2.length
theorem xUp {links:List (List Lk)}(u:Us):atW (wsOf links) u=(((links[u.1]?).getD [])[u.2]?).map λk=>k.2.2.length:=by
 unfold atW wsOf;rw[List.getElem?_map];cases links[u.1]? with
 | none=>simp
 | some l=>simp
theorem Rnd.start {cl:Nat->Prop}{links:List (List Lk)}{hs now:List Nat}(hne:∀l∈links,∀k∈l,k.2.2≠[])(hl:hs.length=links.length)(hh:∀i x,hs[i]?=some x->(x=1/\cl i)\/(x=0/\¬ cl i))(hn:∀i,i∈now↔hs[i]?=some 1)(hnd:now.Nodup):Rnd cl links 2 hs (wsOf links) now:=by
 refine⟨hl,λu x hx=>?_,λu hu=>?_,λi x hx=>?_,hn,hnd⟩
 ·rw[xUp] at hx;obtain⟨k,hk,rfl⟩:=Option.map_eq_some_iff.1 hx;unfold wt lkAt;rw[hk];simp only[Option.elim_some];rw[List.filter_eq_self.2 λp _=>by simp[htG]]
 ·rw[xUp];unfold lkAt at hu;cases hk:((links[u.1]?).getD [])[u.2]? with
  | none=>rw[hk] at hu;exact absurd rfl hu
  | some k=>exact⟨_,rfl⟩
 ·refine⟨λh0=>?_,λk hk hg=>?_⟩
  ·rcases hh i x hx with⟨rfl,hc⟩|⟨rfl,_⟩
   ·exact⟨.inl hc,by omega⟩
   ·omega
  ·obtain rfl|rfl:k=0\/k=1:=by omega
   ·exact hg.elim
   ·have hc:cl i:=by
     rcases hg with hc|⟨lk,hlk,hp⟩
     ·exact hc
     ·cases hli:links[i]? with
      | none=>rw[hli] at hlk;cases hlk
      | some l =>
       rw[hli] at hlk;cases hps:lk.2.2 with
       | nil=>exact absurd hps (hne l (lMg hli) lk hlk)
       | cons p ps=>exact (hp p (by rw[hps];exact .head _)).elim
    rcases hh i x hx with⟨rfl,_⟩|⟨rfl,hn⟩
    ·exact⟨by omega,by omega⟩
    ·exact absurd hc hn
theorem vZd {j r:Bool}{f:Fm}{t:Nat×List Sn}(h:t∈addF j f r):t.2≠[]:=by
 unfold addF at h;split at h
 case h_5=>split at h<;>simp at h<;>(try rcases h with rfl|rfl)<;>(try subst h)<;>simp
 all_goals (first|(simp at h;subst h;simp)|(simp at h))
theorem vKb {W:List Fm}{j:Bool}{ln:Ln}{v:Mv}(h:some v∈mvsN W j ln):v.2.2≠[]:=by
 obtain⟨p,_,h⟩:=List.mem_flatMap.1 (wYs h);unfold yYi at h;cases hf:W[p.1]? with
 | none=>simp only[hf] at h;cases h
 | some f =>
  simp only[hf] at h;obtain⟨t,ht,rfl⟩:=List.mem_map.1 h;obtain⟨t',ht',rfl⟩:=List.mem_map.1 ht;have:=vZd ht';simpa[mvT] using this
def clL (W:List Fm)(lines:List Ln)(i:Nat):Prop:=∃ln,lines[i]?=some ln/\clN W ln
structure LksAll (ca:Nat)(W:List Fm)(lines:List Ln)(links:List (List Lk)):Prop where
 ok:∀ln∈lines,LnOk W ln
 done:∀(k:Nat) (l:List Lk),links[k]?=some l->∃ln,lines[k]?=some ln/\LkS W (calJ ca) lines ln l
 len:links.length=lines.length
theorem LksAll.lk {ca:Nat}{W:List Fm}{lines:List Ln}{links:List (List Lk)}(h:LksAll ca W lines links)(hS:SpOk ca W){l:List Lk}(hl:l∈links){k:Lk}(hk:k∈l):k.2.2≠[]/\k.2.2.length<=2/\k.1<256/\k.2.1<W.length/\∀p∈k.2.2,p<links.length:=by
 obtain⟨i,hi,rfl⟩:=List.mem_iff_getElem.1 hl;obtain⟨ln,hln,⟨_,h0⟩|⟨_,vs,hvs,hlk⟩⟩:=h.done i _ (List.getElem?_eq_getElem hi)
 ·rw[h0] at hk;cases hk
 ·obtain⟨q,hq,rfl⟩:=List.mem_iff_getElem.1 hk;obtain⟨v,hv⟩:=yQ1 (show q<vs.length by rw[<- hlk.1];exact hq);obtain⟨k,hk',ho⟩:=hlk.2 q v hv;rw[List.getElem?_eq_getElem hq] at hk';cases hk';have hvm:some v∈mvsN W (calJ ca) ln:=by rw[hvs];exact List.mem_map_of_mem (lMg hv)
  have h2:=zXd hS (h.ok ln (lMg hln)) hvm;refine⟨λe=>vKb hvm (List.eq_nil_of_length_eq_zero (by rw[<- ho.2.2.1,e];rfl)),by rw[ho.2.2.1];exact h2.2.2.1,by rw[ho.1];exact h2.2.1,by rw[ho.2.1];exact h2.1,λp hp=>?_⟩;obtain⟨e,he,rfl⟩:=List.mem_iff_getElem.1 hp;obtain⟨p',hp1,_⟩:=ho.2.2.2 e _ (List.getElem?_eq_getElem he);rw[h.len];exact (lGs hp1).1
theorem LksAll.ht {ca:Nat}{W:List Fm}{lines:List Ln}{links:List (List Lk)}(h:LksAll ca W lines links)(hS:SpOk ca W):∀(n i:Nat) (ln:Ln),lines[i]?=some ln->(htG (clL W lines) links n i↔HtS (calJ ca) n (lnW W ln))
 | 0,_,_,_=>Iff.rfl
 | n+1,i,ln,hln=>by
  have hi:=(lGs hln).1;have hlo:=h.ok ln (lMg hln);obtain⟨l,hl⟩:=yQ1 (show i<links.length by rw[h.len];exact hi);have hcl:clL W lines i↔ClF (lnW W ln).1 (lnW W ln).2:=by
   rw[<- zZw hS.srt hlo];exact⟨λ⟨a,ha,hc⟩=>by rw[hln] at ha;cases ha;exact hc,λhc=>⟨ln,hln,hc⟩⟩
  rw[zGh];show (clL W lines i\/∃lk∈(links[i]?).getD [],∀p∈lk.2.2,htG (clL W lines) links n p)↔_;rw[hcl,hl,Option.getD_some];obtain⟨a,ha,hs⟩:=h.done i l hl;rw[hln] at ha;cases ha;rcases hs with⟨hc,_⟩|⟨hc,vs,hvs,hlk⟩
  ·exact⟨λ_=>.inl ((zZw hS.srt hlo).1 hc),λ_=>.inl ((zZw hS.srt hlo).1 hc)⟩
  ·refine or_congr Iff.rfl ?_;rw[xXx hS hlo hvs];constructor
   ·rintro⟨lk,hm,hp⟩;obtain⟨q,hq,rfl⟩:=List.mem_iff_getElem.1 hm;obtain⟨v,hv⟩:=yQ1 (show q<vs.length by rw[<- hlk.1];exact hq);obtain⟨k,hk,ho⟩:=hlk.2 q v hv;rw[List.getElem?_eq_getElem hq] at hk;cases hk;refine⟨mvW W v,List.mem_map_of_mem (lMg hv),λp hpm=>?_⟩;obtain⟨z,hz,rfl⟩:=List.mem_map.1 hpm;obtain⟨e,he,rfl⟩:=List.mem_iff_getElem.1 hz;have hek:e<(l[q]).2.2.length:=by rw[ho.2.2.1];exact he
    obtain⟨p',hp1,hp2⟩:=ho.2.2.2 e _ (List.getElem?_eq_getElem hek);rw[List.getElem?_eq_getElem he] at hp2;cases hp2;exact (LksAll.ht h hS n _ _ hp1).1 (hp _ (List.getElem_mem hek))
   ·rintro⟨m,hm,hp⟩;obtain⟨v,hv,rfl⟩:=List.mem_map.1 hm;obtain⟨q,hq,rfl⟩:=List.mem_iff_getElem.1 hv;obtain⟨k,hk,ho⟩:=hlk.2 q _ (List.getElem?_eq_getElem hq);refine⟨k,lMg hk,λp hpm=>?_⟩;obtain⟨e,he,rfl⟩:=List.mem_iff_getElem.1 hpm;obtain⟨p',hp1,hp2⟩:=ho.2.2.2 e _ (List.getElem?_eq_getElem he);exact (LksAll.ht h hS n _ _ hp1).2 (hp _ (List.mem_map_of_mem (lMg hp2)))
theorem LksAll.hF {ca:Nat}{W:List Fm}{lines:List Ln}{links:List (List Lk)}(h:LksAll ca W lines links)(hS:SpOk ca W){i x:Nat}{ln:Ln}(hln:lines[i]?=some ln)(hx:LstG (clL W lines) links i x):Tryz.hF (calJ ca) (lnW W ln)=x :=
 vQi (λh0=>(h.ht hS x i ln hln).1 (hx.1 h0)) λn hn=>hx.2 n ((h.ht hS n i ln hln).2 hn)
theorem ExS.all {ca:Nat}{W:List Fm}{s0:Sn}{lines:List Ln}{links:List (List Lk)}(h:ExS ca W s0 lines links)(hl:links.length=lines.length):LksAll ca W lines links:=⟨h.ok,h.done,hl⟩
end Go.Proofs.Tryz
namespace Go.Iv
open Go
theorem zU0 {esc:List Nat}{dst:Option Nat}{e:TypeId×Bool×Nat×Nat}{tg:Tag}{zs:List IV}{y:IV}{R:Rt}{st S0:ISt}{ds:List Dfd}{n s:Nat}(h:own st tg n s S0)(hlen:zs.length=n)(hsub:subSt S0 st)(he:e.2.2.1=s)
  (hf:fits e.2.1 e.2.2.1 y=true) (hcap:(n+1)*e.2.2.2<=140737488355328) (hcap2:n+1<=140737488355328)
  (k:∀tg' st',own st' tg' (n+1) s S0->subSt S0 st'->(∀b o,st b=some o->tg.cap≠.app b->st' b=some o)->(∀g,tg'.cap=.app g->tg.cap=.app g\/st g=none)->R (.val (.sl tg' (zs++[y]))) st' ds)
  (hesc:yKx esc dst=false:=by first|rfl|simp[yKx]):appV esc dst e tg zs [y] R st ds:=by
 subst hlen he;unfold appV;refine⟨by simp[hf],⟨hcap,hcap2⟩,?_⟩;have hnew:∀g,st g=none->∀m,subSt S0 (st.put g (some (.front m e.2.2.1)))/\(∀b o,st b=some o->(st.put g (some (.front m e.2.2.1))) b=some o)/\S0 g=none:=λg hg m=>by
  have h0:=yXk hsub hg;refine⟨yQa hsub h0,λb o hb=>?_,h0⟩;rw[ISt.put_apply];grind
 rcases h with⟨h0,hc⟩|rfl|⟨g0,rfl,h1,h2⟩
 ·have hz:zs=[]:=List.eq_nil_of_length_eq_zero h0;subst hz;rw[hc];simp only[hesc,bFt,if_false];intro g hg;obtain⟨a1,a2,a3⟩:=hnew g hg 1;exact k _ _ (.inr (.inr ⟨g,rfl,ISt.put_same _ _ _,a3⟩)) a1 (λb o hb _=>a2 b o hb) λg' h=>by cases h;exact .inr hg
 ·refine⟨rfl,λg hg=>?_⟩;obtain⟨a1,a2,a3⟩:=hnew g hg (zs.length+1);exact k _ _ (.inr (.inr ⟨g,rfl,ISt.put_same _ _ _,a3⟩)) a1 (λb o hb _=>a2 b o hb) λg' h=>by cases h;exact .inr hg
 ·refine⟨rfl,h1,λg hg=>?_⟩;have hgn:S0 g=none:=by
   rcases hg with rfl|hg
   ·exact h2
   ·exact yXk hsub hg
  refine k _ _ (.inr (.inr ⟨g,rfl,ISt.put_same _ _ _,hgn⟩)) (yQa (yQa hsub h2) hgn) (λb o hb hn=>?_) λg' h=>?_
  ·have hb0:b≠g0:=λe=>hn (by rw[e]);have hbg:b≠g:=by
    rintro rfl;rcases hg with h|h
    ·exact hb0 h
    ·rw[h] at hb;cases hb
   rw[yQ7 hbg,yQ7 hb0];exact hb
  ·cases h;rcases hg with rfl|hg
   ·exact .inl rfl
   ·exact .inr hg
end Go.Iv
namespace Go.Proofs.Tryz
open Go Go.Iv
set_option maxRecDepth 4000
variable (gl:Nat->Option IV)
def i32I (l:List Nat):List IV:=l.map λn:Nat=>.raw (.int .i32 (n:Int))
theorem xWi {l:List Nat}{i n:Nat}(h:l[i]?=some n):(i32I l)[i]?=some (.raw (.int .i32 (n:Int))):=by simp[i32I,h]
theorem zQ8 (l:List Nat):(i32I l).length=l.length:=by simp[i32I]
theorem to_c (k:Lk)(x:IV)(hx:IsLk k x)(hk:k.2.2.length<=2)(st:ISt):ICall prog gl 78 [x] st (λr st'=>(∃t,r=.sl t (i32I k.2.2)/\okEs t 1)/\st'=st):=by
 obtain⟨p,q,rfl,hpq⟩:=hx;refine ICall.intro (c:=cf prog gl [] [] [1]) func78 rfl (by show _<=7;simp) (by kernel_rfl) ?_;simp only[go_sem,zE,zB,zA,zL,fits,zQo hk];have e:i32I k.2.2=List.take k.2.2.length [.raw (.int .i32 (p:Int)),.raw (.int .i32 (q:Int))]:=by
  conv=>lhs;rw[hpq]
  simp[i32I,List.map_take]
 rw[<- e];exact yQ0 ⟨⟨_,rfl,.inr rfl⟩,rfl⟩
def u8J (l:List Nat):List IV:=l.map λn:Nat=>.raw (.int .u8 (n:Int))
theorem xZs {l:List Nat}{i n:Nat}(h:l[i]?=some n):(u8J l)[i]?=some (.raw (.int .u8 (n:Int))):=by simp[u8J,h]
theorem zY9 (l:List Nat):(u8J l).length=l.length:=by simp[u8J]
theorem wQ1 (l:List Nat)(i n:Nat):(u8J l).set i (.raw (.int .u8 (n:Int)))=u8J (l.set i n):=by simp[u8J,List.map_set]
theorem xW8 (l:List Nat)(i n:Nat):(yQj l).set i (.raw (.int .i64 (n:Int)))=yQj (l.set i n):=by simp[yQj,List.map_set]
theorem yKn {cs:List IV}{k:Nat}{y:IV}(h:k<cs.length):yXc cs k [y]=cs.set k y:=by
 unfold yXc;rw[List.set_eq_take_append_cons_drop,if_pos h];simp
abbrev slG (g n:Nat):IV:=.raw (.slice (some ⟨g,0,none⟩) n n)
def rwsI (gs:List Nat)(ws:List (List Nat)):List IV:=List.zipWith (λg w=>slG g w.length) gs ws
structure Mem (gW gH rb n:Nat)(pre:List IV)(gs:List Nat)(st:ISt)(hs:List Nat)(ws:List (List Nat)):Prop where
 rbx:st rb=some (.box (pre++[slG gH n]))
 hts:st gH=some (.box (yQj hs))
 hl:hs.length=n
 wts:st gW=some (.box (rwsI gs ws++List.replicate (n-gs.length) (.sl ⟨true,.nil,0⟩ [])))
 gll:gs.length=ws.length
 row:∀(k g:Nat) (w:List Nat),gs[k]?=some g->ws[k]?=some w->st g=some (.box (u8J w))
 nd:(gW::gH::rb::gs).Nodup
 small:∀w∈ws,∀x∈w,x<256
theorem zYk {gs:List Nat}{ws:List (List Nat)}{k g:Nat}{w:List Nat}(h1:gs[k]?=some g)(h2:ws[k]?=some w):(rwsI gs ws)[k]?=some (slG g w.length):=by
 unfold rwsI;rw[List.getElem?_zipWith,h1,h2]
end Go.Proofs.Tryz
namespace Go.Proofs.Tryz
open Go Go.Iv
def IsUs (u:Us)(y:IV):Prop:=y=.agg [.raw (.int .i32 (u.1:Int)),.raw (.int .i32 (u.2:Int))]
structure Usr (gU:Nat)(S0 st:ISt)(us:List (List Us)):Prop where
 ex:∃cells,st gU=some (.box cells)/\cells.length=us.length/\(∀(p:Nat) (l:List Us),us[p]?=some l->∃t ys,cells[p]?=some (.sl t ys)/\AllR IsUs l ys/\own st t l.length 2 S0) /\
  ∀(p q:Nat) (t t':Tag) (ys ys':List IV) (g:Nat),cells[p]?=some (.sl t ys)->cells[q]?=some (.sl t' ys')->t.cap=.app g->t'.cap=.app g->p=q
theorem zQw {st:ISt}{tg:Tag}{n s g:Nat}{S0:ISt}(h:own st tg n s S0)(hc:tg.cap=.app g):st g=some (.front n s):=by
 rcases h with⟨_,h⟩|rfl|⟨g',rfl,h,_⟩
 ·rw[h] at hc;cases hc
 ·cases hc
 ·cases hc;exact h
theorem nmem {x g:Nat}{l:List Nat}(h:x ∉ l)(hg:g∈l):x≠g:=λe=>h (by rw[e];exact hg)
structure PS (gU gW gH rb n:Nat)(pre:List IV)(S0:ISt)(gs:List Nat)(st:ISt)(hs:List Nat)(ws:List (List Nat))(us:List (List Us)):Prop where
 mem:Mem gW gH rb n pre gs st hs ws
 usr:Usr gU S0 st us
 base:subSt S0 st
 off:S0 gU=none/\S0 gW=none/\S0 gH=none/\S0 rb=none/\∀g∈gs,S0 g=none
 gu:gU ∉ gW::gH::rb::gs
 ul:us.length=n
section
variable {gU gW gH rb n:Nat}{pre:List IV}{S0:ISt}{gs:List Nat}{st:ISt}{hs:List Nat}{ws:List (List Nat)}{us:List (List Us)}
theorem Usr.keep {st':ISt}(h:Usr gU S0 st us)(h1:st' gU=st gU)(h2:∀g k,st g=some (.front k 2)->st' g=st g):Usr gU S0 st' us:=by
 obtain⟨cells,c1,c2,c3,c4⟩:=h.ex;refine⟨cells,h1.trans c1,c2,λp l hp=>?_,c4⟩;obtain⟨t,ys,k1,k2,k3⟩:=c3 p l hp;exact⟨t,ys,k1,k2,k3.mono λg hg _=>(h2 g _ hg).trans hg⟩
theorem Mem.keep {st':ISt}(h:Mem gW gH rb n pre gs st hs ws)(hk:∀b cs,st b=some (.box cs)->b∈gW::gH::rb::gs->st' b=some (.box cs)):Mem gW gH rb n pre gs st' hs ws :=
 ⟨hk _ _ h.rbx (by simp),hk _ _ h.hts (by simp),h.hl,hk _ _ h.wts (by simp),h.gll,λk g w hg hw=>hk _ _ (h.row k g w hg hw) (by simp[lMg hg]),h.nd,h.small⟩
theorem Mem.ne (h:Mem gW gH rb n pre gs st hs ws):gW≠gH/\gW≠rb/\gW ∉ gs/\gH≠rb/\gH ∉ gs/\rb ∉ gs/\gs.Nodup:=by
 have:=h.nd;simp only[List.nodup_cons,List.mem_cons,not_or] at this;obtain⟨⟨a,b,c⟩,⟨d,e⟩,f,g⟩:=this;exact⟨a,b,c,d,e,f,g⟩
theorem PS.une (h:PS gU gW gH rb n pre S0 gs st hs ws us):gU≠gW/\gU≠gH/\gU≠rb/\gU ∉ gs:=by
 have:=h.gu;simp only[List.mem_cons,not_or] at this;exact this
theorem yVx {st:ISt}{b:Nat}{cs:List IV}{o:Option IObj}(hb:st b=some (.box cs)){g k s:Nat}(hg:st g=some (.front k s)):(st.put b o) g=st g:=by
 rw[yQ7];rintro rfl;rw[hb] at hg;cases hg
theorem PS.setH (h:PS gU gW gH rb n pre S0 gs st hs ws us)(i v:Nat):PS gU gW gH rb n pre S0 gs (st.put gH (some (.box (yQj (hs.set i v))))) (hs.set i v) ws us:=by
 obtain⟨a,b,c,d,e,f,g⟩:=h.mem.ne;obtain⟨u1,u2,u3,u4⟩:=h.une;refine⟨⟨by rw[yQ7 d.symm];exact h.mem.rbx,ISt.put_same ..,by rw[List.length_set];exact h.mem.hl,by rw[yQ7 a];exact h.mem.wts,h.mem.gll,λk g' w hg hw=>?_,h.mem.nd,h.mem.small⟩,
  h.usr.keep (yQ7 u2) λg' k hg=>yVx h.mem.hts hg,yQa h.base h.off.2.2.1,h.off,h.gu,h.ul⟩
 rw[yQ7 (nmem e (lMg hg)).symm];exact h.mem.row k g' w hg hw
theorem PS.row (h:PS gU gW gH rb n pre S0 gs st hs ws us){g:Nat}(hg:st g=none){w:List Nat}(hw:∀x∈w,x<256)(hl:gs.length<n) :
  PS gU gW gH rb n pre S0 (gs++[g]) ((st.put g (some (.box (u8J w)))).put gW (some (.box ((rwsI gs ws++List.replicate (n-gs.length) (IV.sl ⟨true,.nil,0⟩ [])).set gs.length (slG g w.length))))) hs (ws++[w]) us:=by
 obtain⟨a,b,c,d,e,f,nd⟩:=h.mem.ne;obtain⟨u1,u2,u3,u4⟩:=h.une;have hx:∀b cs,st b=some (.box cs)->g≠b:=λb cs hb e=>by rw[e] at hg;rw[hg] at hb;cases hb
 have gW':=hx _ _ h.mem.wts;have gH':=hx _ _ h.mem.hts;have gR':=hx _ _ h.mem.rbx;obtain⟨cells,uc,_⟩:=h.usr.ex;have gU':=hx _ _ uc;have gs':g ∉ gs:=λhm=>by
  obtain⟨k,hk,rfl⟩:=List.mem_iff_getElem.1 hm;obtain⟨w',hw'⟩:=yQ1 (l:=ws) (k:=k) (by rw[<- h.mem.gll];exact hk);exact hx _ _ (h.mem.row k _ w' (List.getElem?_eq_getElem hk) hw') rfl
 have hrl:(rwsI gs ws).length=gs.length:=by unfold rwsI;rw[List.length_zipWith,h.mem.gll,Nat.min_self]
 refine⟨⟨by rw[yQ7 b.symm,yQ7 gR'.symm];exact h.mem.rbx,by rw[yQ7 a.symm,yQ7 gH'.symm];exact h.mem.hts,h.mem.hl,?_,by simp[h.mem.gll],λk g' w' hg' hw'=>?_,?_,λw' hw'=>?_⟩,
  h.usr.keep (by rw[yQ7 u1,yQ7 gU'.symm]) (λg' k hg'=>by rw[yQ7 (λe=>by rw[e,h.mem.wts] at hg';cases hg'),yQ7 (λe=>by rw[e,hg] at hg';cases hg')]),yQa (yQa h.base (yXk h.base hg)) h.off.2.1,?_,?_,h.ul⟩
 ·rw[ISt.put_same];congr 2;have hr:rwsI (gs++[g]) (ws++[w])=rwsI gs ws++[slG g w.length]:=by
   unfold rwsI;rw[List.zipWith_append h.mem.gll];rfl
  rw[hr,lLa,List.length_singleton,List.set_append_right _ _ (by omega),hrl,Nat.sub_self];obtain⟨m,hm⟩:∃m,n-gs.length=m+1:=⟨n-gs.length-1,by omega⟩
  rw[hm,show n-(gs.length+1)=m by omega,List.replicate_succ,List.set_cons_zero,List.append_assoc];rfl
 ·rcases Nat.lt_or_ge k gs.length with hk|hk
  ·rw[List.getElem?_append_left hk] at hg';rw[List.getElem?_append_left (by rw[<- h.mem.gll];exact hk)] at hw';have hm:=lMg hg';rw[yQ7 (nmem c hm).symm,yQ7 (nmem gs' hm).symm];exact h.mem.row k g' w' hg' hw'
  ·have hk0:k=gs.length:=by
    have:=(lGs hg').1;rw[lLa,List.length_singleton] at this;omega
   subst hk0;rw[List.getElem?_append_right (Nat.le_refl _),Nat.sub_self] at hg';rw[h.mem.gll,List.getElem?_append_right (Nat.le_refl _),Nat.sub_self] at hw';cases hg';cases hw';rw[yQ7 gW',ISt.put_same]
 ·simp only[List.nodup_cons,List.mem_cons,List.mem_append,List.not_mem_nil,or_false,not_or];exact⟨⟨a,b,c,gW'.symm⟩,⟨d,e,gH'.symm⟩,⟨f,gR'.symm⟩,List.nodup_append.2 ⟨nd,by simp,λx hxm y hy=>by rw[List.mem_singleton.1 hy];rintro rfl;exact gs' hxm⟩⟩
 ·rcases List.mem_append.1 hw' with hm|hm
  ·exact h.mem.small w' hm
  ·rw[List.mem_singleton.1 hm];exact hw
 ·refine⟨h.off.1,h.off.2.1,h.off.2.2.1,h.off.2.2.2.1,λg' hg'=>?_⟩;rcases List.mem_append.1 hg' with hm|hm
  ·exact h.off.2.2.2.2 g' hm
  ·rw[List.mem_singleton.1 hm];exact yXk h.base hg
 ·simp only[List.mem_cons,List.mem_append,List.not_mem_nil,or_false,not_or];exact⟨u1,u2,u3,u4,gU'.symm⟩
theorem PS.setW (h:PS gU gW gH rb n pre S0 gs st hs ws us){i g:Nat}{w:List Nat}(hg:gs[i]?=some g)(hw:ws[i]?=some w)(j:Nat){v:Nat}(hv:v<256) :
  PS gU gW gH rb n pre S0 gs (st.put g (some (.box (u8J (w.set j v))))) hs (ws.set i (w.set j v)) us:=by
 obtain⟨a,b,c,d,e,f,nd⟩:=h.mem.ne;obtain⟨u1,u2,u3,u4⟩:=h.une;have hm:=lMg hg;have hrow:rwsI gs (ws.set i (w.set j v))=rwsI gs ws:=by
  unfold rwsI;refine List.ext_getElem? λk=>?_;rw[List.getElem?_zipWith,List.getElem?_zipWith,List.getElem?_set];by_cases e:i=k
  ·subst e;rw[if_pos rfl,if_pos (lGs hw).1,hw,hg];simp
  ·rw[if_neg e]
 refine⟨⟨by rw[yQ7 (nmem f hm)];exact h.mem.rbx,by rw[yQ7 (nmem e hm)];exact h.mem.hts,h.mem.hl,by rw[hrow,yQ7 (nmem c hm)];exact h.mem.wts,by rw[List.length_set];exact h.mem.gll,λk g' w' hg' hw'=>?_,h.mem.nd,λw' hw' x hx=>?_⟩,
  h.usr.keep (yQ7 (nmem u4 hm)) (λg' k hg'=>yVx (h.mem.row i g w hg hw) hg'),yQa h.base (h.off.2.2.2.2 g hm),h.off,h.gu,h.ul⟩
 ·rw[List.getElem?_set] at hw';split at hw'
  ·rename_i e;subst e;rw[if_pos (lGs hw).1] at hw';cases hw';rw[hg] at hg';cases hg';exact ISt.put_same ..
  ·rename_i e;have hgg:g'≠g:=λeg=>by
    subst eg;obtain⟨h1,h2⟩:=lGs hg;obtain⟨h3,h4⟩:=lGs hg';exact e ((List.getElem_inj nd).1 (h2.trans h4.symm))
   rw[yQ7 hgg];exact h.mem.row k g' w' hg' hw'
 ·rcases List.mem_or_eq_of_mem_set hw' with hw'|rfl
  ·exact h.mem.small w' hw' x hx
  ·rcases List.mem_or_eq_of_mem_set hx with hx|rfl
   ·exact h.mem.small w (lMg hw) x hx
   ·exact hv
theorem PS.addU (h:PS gU gW gH rb n pre S0 gs st hs ws us){p:Nat}{l:List Us}{u:Us}{y:IV}(hy:IsUs u y)(hp:us[p]?=some l){cells ys:List IV}{t tg':Tag}{st':ISt}(hc:st gU=some (.box cells))(ht:cells[p]?=some (.sl t ys))(hown:own st' tg' (l.length+1) 2 S0)(hsub:subSt S0 st')
  (hfar:∀b o,st b=some o->t.cap≠.app b->st' b=some o) (hnew:∀g,tg'.cap=.app g->t.cap=.app g\/st g=none) :
  PS gU gW gH rb n pre S0 gs (st'.put gU (some (.box (cells.set p (.sl tg' (ys++[y])))))) hs ws (us.set p (l++[u])):=by
 obtain⟨cells',c1,c2,c3,c4⟩:=h.usr.ex;rw[hc] at c1;cases c1;obtain⟨t0,ys0,k1,k2,k3⟩:=c3 p l hp;rw[ht] at k1;cases k1;have hbox:∀b cs,st b=some (.box cs)->st' b=some (.box cs):=λb cs hb=>hfar b _ hb λe=>by
  rw[zQw k3 e] at hb;cases hb
 have hpl:p<cells.length:=(lGs ht).1;have hu':=hbox _ _ hc;refine⟨h.mem.keep λb cs hb hm=>by rw[yQ7 (nmem h.gu hm).symm];exact hbox b cs hb,⟨_,ISt.put_same ..,by rw[List.length_set,List.length_set];exact c2,λq l' hq=>?_,λq q' t1 t2 y1 y2 g h1 h2 h3 h4=>?_⟩,yQa hsub h.off.1,h.off,h.gu,by rw[List.length_set];exact h.ul⟩
 ·have far2:∀ {t2:Tag} {m:Nat},own st' t2 m 2 S0->own (st'.put gU (some (.box (cells.set p (.sl tg' (ys++[y])))))) t2 m 2 S0:=λho=>ho.mono λg hg _=>by
   rw[yQ7 λe=>by rw[e,hu'] at hg;cases hg];exact hg
  rw[List.getElem?_set] at hq ⊢;split at hq
  ·rename_i e;subst e;rw[if_pos (lGs hp).1] at hq;cases hq;exact⟨tg',_,by rw[if_pos hpl,if_pos rfl],k2.snoc hy,by rw[lLa];exact far2 hown⟩
  ·rename_i e;rw[if_neg e];obtain⟨t2,y2,g1,g2,g3⟩:=c3 q l' hq;refine⟨t2,y2,g1,g2,far2 ?_⟩;rcases g3 with hz|rfl|⟨g',rfl,hg',hg0⟩
   ·exact .inl hz
   ·exact .inr (.inl rfl)
   ·exact .inr (.inr ⟨g',rfl,hfar g' _ hg' λe2=>e (c4 p q t _ ys _ g' ht g1 e2 rfl),hg0⟩)
 ·have key:∀(q:Nat) (t2:Tag) (y2:List IV) (g:Nat),q≠p->cells[q]?=some (.sl t2 y2)->t2.cap=.app g->tg'.cap=.app g->False:=λq t2 y2 g hqp hq h2c h1c=>by
   rcases hnew g h1c with h0|h0
   ·exact hqp (c4 q p t2 t y2 ys g hq ht h2c h0)
   ·obtain⟨lq,hlq⟩:=yQ1 (l:=us) (k:=q) (by rw[<- c2];exact (lGs hq).1);obtain⟨t3,y3,g1,_,g3⟩:=c3 q lq hlq;rw[hq] at g1;cases g1;rw[zQw g3 h2c] at h0;cases h0
  rw[List.getElem?_set] at h1 h2;by_cases e1:p=q
  ·by_cases e2:p=q'
   ·exact e1.symm.trans e2
   ·subst e1;rw[if_pos rfl,if_pos hpl] at h1;rw[if_neg e2] at h2;cases h1;exact (key q' t2 y2 g (λe=>e2 e.symm) h2 h4 h3).elim
  ·rw[if_neg e1] at h1;by_cases e2:p=q'
   ·subst e2;rw[if_pos rfl,if_pos hpl] at h2;cases h2;exact (key q t1 y1 g (λe=>e1 e.symm) h1 h3 h4).elim
   ·rw[if_neg e2] at h2;exact c4 q q' t1 t2 y1 y2 g h1 h2 h3 h4
theorem PS.far (h:PS gU gW gH rb n pre S0 gs st hs ws us){tg:Tag}{m:Nat}{st':ISt}(ho:own st tg m 1 S0)(hsub:subSt S0 st')(hfar:∀b o,st b=some o->tg.cap≠.app b->st' b=some o):PS gU gW gH rb n pre S0 gs st' hs ws us:=by
 have hbox:∀b cs,st b=some (.box cs)->st' b=some (.box cs):=λb cs hb=>hfar b _ hb λe=>by
  rw[zQw ho e] at hb;cases hb
 obtain⟨cells,c1,_⟩:=h.usr.ex;exact⟨h.mem.keep λb cs hb _=>hbox b cs hb,h.usr.keep ((hbox _ _ c1).trans c1.symm) λg k hg=>(hfar g _ hg λe=>by rw[zQw ho e] at hg;cases hg).trans hg.symm,hsub,h.off,h.gu,h.ul⟩
end
end Go.Proofs.Tryz
namespace Go.Proofs.Tryz
open Go Go.Iv
set_option maxRecDepth 4000
variable (gl:Nat->Option IV)
theorem xY3 {ws:List (List Nat)}{u:Us}{w:List Nat}{x:Nat}(hw:ws[u.1]?=some w)(hx:w[u.2]?=some x):decW ws u=ws.set u.1 (w.set u.2 ((x+255)%256)):=by
 unfold decW;have hm:∀ {α:Type} (l:List α) (i:Nat) (f:α->α) (a:α),l[i]?=some a->l.modify i f=l.set i (f a):=λl i f a h=>by
  refine List.ext_getElem? λk=>?_;rw[List.getElem?_modify,List.getElem?_set];by_cases e:i=k
  ·subst e;simp only[if_true,if_pos (lGs h).1,h];rfl
  ·simp[e]
 rw[hm _ _ _ _ hw,hm _ _ _ _ hx]
theorem vJ9 {x:Nat}(h:x<256):IntKind.u8.wrap ((x:Int)-1)=(((x+255)%256:Nat):Int):=by
 have:∀y:Fin 256,IntKind.u8.wrap ((y.val:Int)-1)=(((y.val+255)%256:Nat):Int):=by decide
 exact this ⟨x,h⟩
theorem wWo (gU gW gH rb n:Nat)(p1 p2 p3 p4:IV)(S0:ISt)(gs hs:List Nat)(ws:List (List Nat))(us:List (List Us))(u:Us)(st:ISt)(hP:PS gU gW gH rb n [p1,p2,p3,p4] S0 gs st hs ws us)(w:List Nat)(hw:ws[u.1]?=some w)(x:Nat)(hx:w[u.2]?=some x)(h:Nat)(hh:hs[u.1]?=some h) :
  ICall prog gl 79 [.agg [.raw (.int .i32 (u.1:Int)),.raw (.int .i32 (u.2:Int))],.cptr (slG gW n),.cptr (ptr rb)] st
   (λr st'=>r=.raw (.bool (decide ((x+255)%256=0/\h=0)))/\PS gU gW gH rb n [p1,p2,p3,p4] S0 gs st' hs (decW ws u) us/\∀g k s,st g=some (.front k s)->st' g=some (.front k s)):=by
 have hM:=hP.mem;obtain⟨g,hg⟩:=yQ1 (l:=gs) (k:=u.1) (by rw[hM.gll];exact (lGs hw).1);have hrow:=hM.row _ _ _ hg hw;have hx2:=(lGs hx).1;have hx1:x<256:=hM.small w (lMg hw) x (lMg hx);have hn:u.1<n:=by rw[<- hM.hl];exact (lGs hh).1
 have hgg:g∈gs:=lMg hg;obtain⟨d1,d2,d3,d4,d5,d6,d7⟩:=hM.ne;have eW:gW≠g:=λe=>d3 (e▸hgg);have eH:gH≠g:=λe=>d5 (e▸hgg);have eR:rb≠g:=λe=>d6 (e▸hgg);have hwc:(rwsI gs ws++List.replicate (n-gs.length) (IV.sl ⟨true,.nil,0⟩ []))[u.1]?=some (slG g w.length):=by
  have:=zYk hg hw;rw[List.getElem?_append_left (lGs this).1];exact this
 refine ICall.intro (c:=cf prog gl [9,13,20,24,30,34] []) func79 rfl (by show _<=37;simp) (by kernel_rfl) ?_;simp only[go_sem,zE,fits,yUm,IV.one,Nat.mul_one,Nat.zero_add,iNn,hn,hM.wts,hwc,hrow,hx2,xZs hx,vJ9 hx1];have hset:List.take u.2 (u8J w)++[.raw (.int .u8 (((x+255)%256:Nat):Int))]++List.drop (u.2+1) (u8J w)=u8J (w.set u.2 ((x+255)%256)):=by
  rw[<- wQ1,<- yKn (by rw[zY9];exact hx2)];rfl
 rw[if_pos (by rw[zY9];omega),hset];have hP':=hP.setW hg hw u.2 (v:=(x+255)%256) (Nat.mod_lt _ (by decide));rw[<- xY3 hw hx] at hP';have hw':(decW ws u)[u.1]?=some (w.set u.2 ((x+255)%256)):=by rw[xY3 hw hx,List.getElem?_set,if_pos rfl,if_pos (lGs hw).1]
 have hx':(w.set u.2 ((x+255)%256))[u.2]?=some ((x+255)%256):=by rw[List.getElem?_set,if_pos rfl,if_pos hx2]
 have hfr:∀g' k s,st g'=some (.front k s)->(st.put g (some (.box (u8J (w.set u.2 ((x+255)%256)))))) g'=some (.front k s):=λg' k s hg'=>(yVx hrow hg').trans hg';generalize st.put g (some (.box (u8J (w.set u.2 ((x+255)%256)))))=st2 at hP' hfr ⊢;generalize w.set u.2 ((x+255)%256)=w2 at hw' hx';generalize (x+255)%256=v at hx' ⊢;have hM':=hP'.mem;have hrow':=hM'.row _ _ _ hg hw';have hx2':=(lGs hx').1;have hwc':(rwsI gs (decW ws u)++List.replicate (n-gs.length) (IV.sl ⟨true,.nil,0⟩ []))[u.1]?=some (slG g w2.length):=by
  have:=zYk hg hw';rw[List.getElem?_append_left (lGs this).1];exact this
 have hrb':=hM'.rbx;simp only[List.cons_append,List.nil_append] at hrb';by_cases hv:v=0
 ·subst hv;simp only[go_sem,zE,zA,fits,yUm,IV.one,Nat.mul_one,Nat.zero_add,iNn,hn,hM'.wts,hwc',hrow',hx2',xZs hx',hrb',hM'.hts,yXu hh,show decide (((0:Nat):Int)=0)=true from rfl];exact yQ0 ⟨by rw[show decide ((h:Int)=0)=decide (h=0) by rw[decide_eq_decide];omega],hP',hfr⟩
 ·have hv':decide ((v:Int)=0)=false:=dEf (by omega);simp only[go_sem,zE,Nat.zero_add,hM'.wts,hwc',hrow',hx2',xZs hx',hv'];exact yQ0 ⟨by rw[show decide (v=0/\h=0)=false from dEf λe=>hv e.1],hP',hfr⟩
