/- The layer of ideal values, part I: lengt -/
import Derived.Test.YtclkffdkahljeaaGreatDoorJC
import Derived.Great.FillDense
import Derived.Maps.Keyed
import Derived.Maps.RangeRun
set_option linter.all false
namespace Go.Iv
open Go
theorem yQs {P:Program}{o:Oper}{b:Builtin}{args:Array Operand}{A:Array TypeId}(D:o.op=.call ⟨.builtin b,args,A⟩)(ρ:Operand->Value)(w:World) :
  (execOp ρ o).run P w=(builtin b A o.type (args.map λ| .const _=>true|_=>false) (args.map ρ)).run P w:=by
 unfold execOp;rw[D];simp only[resolve,Sem.run_bind,Sem.run_pure,Result.andThen_ok,invoke];rfl
section
variable {C:Cx}{X0 X:WS}{N:Nat}{fr:Fr}{ds:List Dfd}{a:Act}{ad:Ad}{K:Kt}{ro:Option Nat}{n:Nat}{Q:Exit->Act->World->Prop}{o:Oper}
theorem V.sl_len {B:Nat}{L:Nat->Nat}{w:World}{r:Value}{t:Tag}{A:List IV}(hv:V B L w r (.sl t A)):∃ad cap,r=.slice ad A.length cap/\A.length<=140737488355328/\A.length<=cap/\zXf t.cap ad A.length cap:=by
 cases hv with
 | sl ad cap _ _ T vs E D aa hs ab U O J _=>exact⟨ad,cap,rfl,D,aa,E⟩
theorem xQz {s:Nat}:∀(A:List IV) (l:Nat),(∀x∈A,x.cells.length=s)->(A.drop l).flatMap IV.cells=(A.flatMap IV.cells).drop (l*s)
 | [],l,_=>by simp
 | x::A,0,_=>by simp
 | x::A,l+1,h=>by
  rw[List.drop_succ_cons,xQz A l (λz D=>h z (by simp[D])),List.flatMap_cons,List.drop_append,h x (by simp)];have h1:(x.cells).drop ((l+1)*s)=[]:=List.drop_eq_nil_of_le (by rw[h x (by simp),Nat.succ_mul];omega);grind
theorem xQy {s:Nat}:∀(A:List IV) (l:Nat),(∀x∈A,x.cells.length=s)->(A.take l).flatMap IV.cells=(A.flatMap IV.cells).take (l*s)
 | [],l,_=>by simp
 | x::A,0,_=>by simp
 | x::A,l+1,h=>by
  rw[List.take_succ_cons,List.flatMap_cons,xQy A l (λz D=>h z (by simp[D])),List.flatMap_cons,List.take_append,h x (by simp)];have h1:(x.cells).take ((l+1)*s)=x.cells:=List.take_of_length_le (by rw[h x (by simp),Nat.succ_mul];omega);grind
theorem yQn {s:Nat}:∀(A:List IV),(∀x∈A,x.cells.length=s)->(A.flatMap IV.cells).length=A.length*s
 | [],_=>by simp
 | x::A,h=>by rw[List.flatMap_cons,lLa,yQn A (λz D=>h z (by simp[D])),h x (by simp),List.length_cons,Nat.succ_mul];omega
theorem V.slice {B:Nat}{L:Nat->Nat}{w:World}{ad:Option Addr}{len cap l h m:Nat}{D E:Tag}{xs:List IV}(hv:V B L w (.slice ad len cap) (.sl D xs))(aB:l<=h)(aj:h<=xs.length)(aD:h<=m)
  (aa:E.es=D.es) (aq:E.fresh=true->D.fresh=true) (ae:zXf E.cap (if m=l then ad else ad.map (·.add (l*D.es))) (h-l) (m-l)) (al:∀g,E.cap=.app g->D.cap=.app g/\m-l<=cap) :
  V B L w (.slice (if m=l then ad else ad.map (·.add (l*D.es))) (h-l) (m-l)) (.sl E ((xs.drop l).take (h-l))):=by
 cases hv with
 | sl _ _ _ _ T vs ax aw aH hs am ac U O hc =>
  have J:((xs.drop l).take (h-l)).length=h-l:=by simp;omega
  have key:=V.sl (B:=B) (L:=L) (w:=w) (if m=l then ad else ad.map (·.add (l*D.es))) (m-l) E ((xs.drop l).take (h-l)) T ((vs.drop (l*D.es)).take ((h-l)*D.es));rw[J] at key;have aA:(h-l)*D.es+l*D.es=h*D.es:=by rw[<- Nat.add_mul];congr 1;omega
  have aC:h*D.es<=vs.length:=by rw[am];exact Nat.mul_le_mul_right _ aj
  refine key ae (by omega) (by omega) (λx hx=>by rw[aa];exact hs x (List.mem_of_mem_drop (List.mem_of_mem_take hx))) (by rw[aa];simp;omega) ?_ ?_ ?_ ?_
  ·intro g hg;obtain⟨h1,h2⟩:=al g hg;obtain⟨T',k,h3,h4⟩:=ac g h1;refine⟨T',k,h3,Nat.le_trans ?_ h4⟩;rw[aa];exact Nat.mul_le_mul_right _ h2
  ·intro hf aJ ha;rw[aa];split at ha
   ·grind
   ·cases hq:ad with
    | none=>simp[hq] at ha
    | some A =>
     simp only[hq,Option.map_some,Option.some.injEq] at ha;subst ha;obtain⟨h1,h2,h3⟩:=U (aq hf) A hq;have ak:(A.add (l*D.es)).block=A.block:=by unfold Addr.add;split<;>rfl
     have ah:(A.add (l*D.es)).off=A.off+l*D.es:=by unfold Addr.add;split<;>simp_all
     rw[ak,ah,Nat.add_mul_mod_self_right];grind
  ·intro ao;have ai:l<h:=by
    rcases Nat.lt_or_ge l h with ai|aE
    ·exact ai
    ·exact absurd (List.eq_nil_of_length_eq_zero (by rw[J];omega)) ao
   obtain⟨A,ha,ab,hL,au⟩:=O (by rintro rfl;simp at aj;omega);subst ha;rw[if_neg (by omega)];refine⟨A.add (l*D.es),rfl,?_,?_,?_⟩
   ·rw[yJn A ab]
   ·rw[yJn A ab];simp;omega
   ·intro i r hr;rw[yJn A ab];grind
  ·intro i r c hr av;rw[xQy _ _ (λx hx=>hs x (List.mem_of_mem_drop hx)),xQz _ _ hs,List.getElem?_take] at av;grind
theorem yU7 {x:Option Operand}{r:Option Int}(D:Inv C X0 N X fr ds a)(h:yWt C.gl fr x=some r):(x=none/\r=none)\/∃y k m,x=some y/\r=some m/\a.eval y=.int k m:=by
 cases x with
 | none=>simp only[yWt,Option.some.injEq] at h;exact .inl ⟨rfl,h.symm⟩
 | some y =>
  simp only[yWt] at h;cases A:evV C.gl fr y with
  | none=>rw[A] at h;cases h
  | some z =>
   rw[A] at h;unfold intI at h;split at h
   ·rename_i k m E;cases E;cases h;exact .inr ⟨y,k,m,rfl,rfl,V.raw_inv (xGr D.good D.fr A).1⟩
   ·cases h
theorem yZi {P:Program}{k:IntKind}{i:Int}{y:Nat}{A:BoundsCode}(h:0<=i/\i<=(y:Int))(w:World):(Instr.sliceBound (.int k i) y A).run P w=.ok i.toNat w:=by
 simp only[Instr.sliceBound,asIntOf,Sem.run_bind,Sem.run_pure,Result.andThen_ok,h,and_self,if_true]
theorem wQa {D A:Option Int}{len:Nat}{p:Nat×Nat}(h:yXl D A len=some p):p.1<=p.2/\p.2<=len:=by
 unfold yXl at h;grind
theorem yJd {lo hi mx:Option Operand}{E A max:Option Int}{sl:Bool}{len ln cap:Nat}{p:Nat×Nat}(D:Inv C X0 N X fr ds a)(h1:yWt C.gl fr lo=some E)(h2:yWt C.gl fr hi=some A)
  (h3:yWt C.gl fr mx=some max) (U:yXl E A len=some p) (al:len<=cap) (hm:∀m,max=some m->(p.2:Int)<=m/\m<=cap) (aa:A=none->max=none) (ab:A=none->ln=len:=by first|exact λ_=>rfl|(intro h;simp[h])) :
  (Instr.sliceBounds sl ln cap (lo.map a.eval) (hi.map a.eval) (mx.map a.eval)).run C.P X.w=.ok (p.1,p.2,(max.getD cap).toNat) X.w/\p.1<=p.2/\p.2<=len:=by
 unfold yXl at U;split at U
 ·rename_i hc;cases U;obtain⟨c1,c2,c3⟩:=hc;refine⟨?_,by simp only;omega,by simp only;omega⟩;simp only at hm;rcases yU7 D h3 with⟨rfl,rfl⟩|⟨y3,k3,m,rfl,rfl,e3⟩
  ·rcases yU7 D h2 with⟨rfl,rfl⟩|⟨y2,k2,q,rfl,rfl,J⟩
   ·obtain rfl:=ab rfl;rcases yU7 D h1 with⟨rfl,rfl⟩|⟨y1,k1,r,rfl,rfl,O⟩
    ·simp only[Instr.sliceBounds,Option.map_none,Sem.run_bind,Sem.run_pure,Result.andThen_ok,Option.getD_none];simp
    ·simp only[Option.getD_some,Option.getD_none] at *;simp only[Instr.sliceBounds,Option.map_none,Option.map_some,O,Sem.run_bind,Sem.run_pure,Result.andThen_ok,Option.isSome_none];rw[yZi ⟨by omega,by omega⟩];simp
   ·simp only[Option.getD_some,Option.getD_none] at *;rcases yU7 D h1 with⟨rfl,rfl⟩|⟨y1,k1,r,rfl,rfl,O⟩
    ·simp only[Option.getD_none] at *;simp only[Instr.sliceBounds,Option.map_none,Option.map_some,J,Sem.run_bind,Sem.run_pure,Result.andThen_ok];rw[yZi ⟨by omega,by omega⟩];simp
    ·simp only[Option.getD_some] at *;simp only[Instr.sliceBounds,Option.map_none,Option.map_some,O,J,Sem.run_bind,Sem.run_pure,Result.andThen_ok];rw[yZi ⟨by omega,by omega⟩];simp only[Result.andThen_ok];rw[yZi ⟨by omega,by omega⟩];simp
  ·obtain⟨m1,m2⟩:=hm m rfl;rcases yU7 D h2 with⟨rfl,rfl⟩|⟨y2,k2,q,rfl,rfl,J⟩
   ·cases aa rfl
   ·simp only[Option.getD_some] at *;rcases yU7 D h1 with⟨rfl,rfl⟩|⟨y1,k1,r,rfl,rfl,O⟩
    ·simp only[Option.getD_none] at *;simp only[Instr.sliceBounds,Option.map_none,Option.map_some,J,e3,Sem.run_bind,Sem.run_pure,Result.andThen_ok];rw[yZi ⟨by omega,by omega⟩];simp only[Result.andThen_ok];rw[yZi ⟨by omega,by omega⟩];simp
    ·simp only[Option.getD_some] at *;simp only[Instr.sliceBounds,Option.map_some,O,J,e3,Sem.run_bind,Sem.run_pure];rw[yZi ⟨by omega,by omega⟩];simp only[Result.andThen_ok];rw[yZi ⟨by omega,by omega⟩];simp only[Result.andThen_ok];rw[yZi ⟨by omega,by omega⟩];simp
 ·cases U
variable (hA:At C X0 N X fr ds a ad o.dst)
include hA
theorem wQ3 {dr:Bool}{T:TypeId}{x:Operand}(ho:o.op=.call ⟨.builtin .len,⟨[x]⟩,⟨[T]⟩⟩)
  (h:yQ6 (lenI C.P T) λk=>yQ6 (evV C.gl fr x) λx=>lenV dr k x (finK o.dst K ad fr) X.st ds):o.wpIn (yZ7 ro) n C.P a X.w (PK C X0 N K) Q:=by
 obtain⟨lk,U,h2⟩:=yQ2.1 h;clear h;obtain⟨vx,hx,h⟩:=yQ2.1 h2;clear h2;have hnd:∀c,o.op≠.defer c:=by rw[ho];intro c hc;cases hc
 have A:=(hA.v hx).1;have key:∀z:Value,(Builtin.len_ #[T] o.type #[a.eval x]).run C.P X.w=.ok z X.w->(execOp a.eval o).run C.P X.w=.ok (.value z) X.w:=by
  intro z hz;rw[yQs ho];simp only[builtin,List.map_toArray,List.map_cons,List.map_nil,Sem.run_bind,hz,Result.andThen_ok,Sem.run_pure]
 rcases zQ2 U with⟨rfl,E⟩|⟨rfl,e,E⟩|⟨rfl,k,e,E⟩|⟨len,e,rfl,E⟩
 ·obtain⟨v,rfl,h2⟩:=zYs h;clear h;have ex:=V.raw_inv A;cases v with
  | string s =>
   have hs:s.size<=281474976710656:=V.raw_ok A;refine yQg (key (.int .i64 s.size) ?_) hnd (hA.val (.raw _ trivial) (h2 λ_=>hs));rw[ex];simp[Builtin.len_,run_underlying E,goInt]
  | _=>exact h2.elim
 ·rcases wQb h with⟨tg,xs,rfl,h2⟩|⟨b,off,m,cap,rfl,h2⟩
  case inr =>
   have ex:=V.raw_inv A;refine yQg (key (.int .i64 m) ?_) hnd (hA.val (.raw _ trivial) h2);rw[ex];simp[Builtin.len_,run_underlying E,goInt]
  clear h;obtain⟨ah,cap,ex,D,_⟩:=V.sl_len A;refine yQg (key (.int .i64 xs.length) ?_) hnd (hA.val (.raw _ trivial) (h2 λ_=>D));rw[ex];simp[Builtin.len_,run_underlying E,goInt]
 ·obtain⟨_,h2⟩:=yK0 h;clear h;obtain⟨m,rfl,h⟩:=zXp h2;clear h2;have ex:=V.raw_inv A;cases m with
  | none =>
   refine yQg (key (.int .i64 0) ?_) hnd (hA.val (.raw _ trivial) h);rw[ex];simp[Builtin.len_,run_underlying E,goInt]
  | some b =>
   obtain⟨ob,O,h2⟩:=yQ2.1 h;clear h;obtain⟨kk,es,rfl,h⟩:=xXy h2;clear h2;obtain⟨_,_,_,J,aa,hh,hk,_⟩:=hA.inv.good.ok b _ O;refine yQg (key (.int .i64 es.length) ?_) hnd (hA.val (.raw _ trivial) h);have D:J.size=es.length:=by have:=congrArg List.length hk;simpa using this
   rw[ex];simp[Builtin.len_,run_underlying E,goInt,getObj,Sem.run,hh,D]
 ·refine yQg (key (.int .i64 len) ?_) hnd (hA.val (.raw _ trivial) h);simp[Builtin.len_,run_underlying E,goInt]
theorem wQ4 {T:TypeId}{x:Operand}(J:o.op=.call ⟨.builtin .cap,⟨[x]⟩,⟨[T]⟩⟩)
  (h:yQ6 (slI C.P T) λ_=>yQ6 (evV C.gl fr x) λx=>capV x (finK o.dst K ad fr) X.st ds):o.wpIn (yZ7 ro) n C.P a X.w (PK C X0 N K) Q:=by
 obtain⟨⟨e,ag,s,by_⟩,E,h1⟩:=yQ2.1 h;clear h;obtain⟨vx,hx,h⟩:=yQ2.1 h1;clear h1;obtain⟨hT,_⟩:=yWj E;have hnd:∀c,o.op≠.defer c:=by rw[J];intro c hc;cases hc
 have D:=(hA.v hx).1;have key:∀(p:Option Addr) (m c:Nat),a.eval x=.slice p m c->(execOp a.eval o).run C.P X.w=.ok (.value (.int .i64 c)) X.w:=by
  intro p m c hz;rw[yQs J];simp[builtin,hz,Builtin.cap_,run_underlying hT,goInt]
 rcases zJe h with⟨U,xs,rfl,h2⟩|⟨b,off,m,cap,rfl,h2⟩
 ·obtain⟨ae,cap,ex,O,ab,A⟩:=V.sl_len D;cases hc:U.cap with
  | nil =>
   rw[hc] at h2 A;obtain⟨rfl,h0,rfl⟩:=A;exact yQg (key _ _ _ ex) hnd (hA.val (.raw _ trivial) h2)
  | full =>
   rw[hc] at h2 A;simp only[zXf] at A;subst A;exact yQg (key _ _ _ ex) hnd (hA.val (.raw _ trivial) h2)
  | none=>rw[hc] at h2;exact h2.elim
  | app g=>rw[hc] at h2;exact h2.elim
 ·exact yQg (key _ _ _ (V.raw_inv D)) hnd (hA.val (.raw _ trivial) h2)
theorem wQ2 {U:Array TypeId}{x y:Operand}(D:o.op=.call ⟨.builtin .max,⟨[x,y]⟩,U⟩)
  (h:yQ6 (evV C.gl fr x) λx=>yQ6 (evV C.gl fr y) λy=>intV x λk p=>intV y λA q=>if k=A then finK o.dst K ad fr (.val (.raw (.int k (max p q)))) X.st ds else False) :
  o.wpIn (yZ7 ro) n C.P a X.w (PK C X0 N K) Q:=by
 obtain⟨vx,hx,h2⟩:=yQ2.1 h;clear h;obtain⟨vy,hy,O⟩:=yQ2.1 h2;clear h2;obtain⟨k,p,rfl,J⟩:=yKl O;clear O;obtain⟨A,q,rfl,E⟩:=yKl J;clear J;obtain⟨rfl,h⟩:=yQx E;clear E;have hnd:∀c,o.op≠.defer c:=by rw[D];intro c hc;cases hc
 have ex:=V.raw_inv (hA.v hx).1;have ey:=V.raw_inv (hA.v hy).1;have hr:(execOp a.eval o).run C.P X.w=.ok (.value (.int k (max p q))) X.w:=by
  rw[yQs D];simp[builtin,ex,ey,Builtin.max_,Builtin.max2,Int.max_def];grind
 exact yQg hr hnd (hA.val (.raw _ trivial) h)
theorem wQ1 {U:Array TypeId}{x y:Operand}(D:o.op=.call ⟨.builtin .min,⟨[x,y]⟩,U⟩)
  (h:yQ6 (evV C.gl fr x) λx=>yQ6 (evV C.gl fr y) λy=>intV x λk p=>intV y λA q=>if k=A then finK o.dst K ad fr (.val (.raw (.int k (min p q)))) X.st ds else False) :
  o.wpIn (yZ7 ro) n C.P a X.w (PK C X0 N K) Q:=by
 obtain⟨vx,hx,h2⟩:=yQ2.1 h;clear h;obtain⟨vy,hy,O⟩:=yQ2.1 h2;clear h2;obtain⟨k,p,rfl,J⟩:=yKl O;clear O;obtain⟨A,q,rfl,E⟩:=yKl J;clear J;obtain⟨rfl,h⟩:=yQx E;clear E;have hnd:∀c,o.op≠.defer c:=by rw[D];intro c hc;cases hc
 have ex:=V.raw_inv (hA.v hx).1;have ey:=V.raw_inv (hA.v hy).1;have hr:(execOp a.eval o).run C.P X.w=.ok (.value (.int k (min p q))) X.w:=by
  rw[yQs D];simp[builtin,ex,ey,Builtin.min_,Builtin.min2,Int.min_def];grind
 exact yQg hr hnd (hA.val (.raw _ trivial) h)
theorem xXa {T:TypeId}{x:Operand}{lo hi mx:Option Operand}(ho:o.op=.slice T x lo hi mx)
  (h:yQ6 (lenI C.P T) λk=>yQ6 (evV C.gl fr x) λx=>yQ6 (yWt C.gl fr lo) λlo=>yQ6 (yWt C.gl fr hi) λhi=>yQ6 (yWt C.gl fr mx) λmx =>
   yVz k (slI C.P T) (arrI C.P T) x lo hi mx (finK o.dst K ad fr) X.st ds):o.wpIn (yZ7 ro) n C.P a X.w (PK C X0 N K) Q:=by
 obtain⟨lk,aO,h1⟩:=yQ2.1 h;clear h;obtain⟨vx,hx,h2⟩:=yQ2.1 h1;clear h1;obtain⟨aL,ak,h3⟩:=yQ2.1 h2;clear h2;obtain⟨ao,al,h4⟩:=yQ2.1 h3;clear h3;obtain⟨max,ac,h⟩:=yQ2.1 h4;clear h4;have hnd:∀c,o.op≠.defer c:=by rw[ho];intro c hc;cases hc
 have A:=(hA.v hx).1;rcases zQ2 aO with⟨rfl,hT⟩|⟨rfl,e,hT⟩|⟨rfl,k,e,hT⟩|⟨len,e,rfl,hT⟩
 ·obtain⟨v,rfl,h2⟩:=zYs h;clear h;cases v with
  | string s =>
   cases max with
   | some m=>exact h2.elim
   | none =>
    obtain⟨p,hp,h⟩:=yQ2.1 h2;clear h2;have ex:=V.raw_inv A;have aZ:s.size<=281474976710656:=V.raw_ok A;have aN:mx=none:=by rcases yU7 hA.inv ac with⟨rfl,_⟩|⟨y,k,m,_,he,_⟩<;>first|rfl|cases he
    subst aN;obtain⟨hb,_⟩:=yJd (sl:=false) (cap:=s.size) hA.inv ak al ac hp (Nat.le_refl _) (λm hm=>by cases hm) (λ_=>rfl);have J:(execOp a.eval o).run C.P X.w=.ok (.value (.string (s.extract p.1 p.2))) X.w:=by
     unfold execOp;rw[ho];simp only[Option.map_none] at hb;simp only[Instr.sliceAt,Instr.slice,ex,Sem.run_bind,run_underlying hT,Result.andThen_ok,Option.map_none,Option.isSome_none,bFt,if_false,hb,Sem.run_pure]
    refine yQg J hnd (hA.val (.raw _ ?_) h);simp only[zYt,ByteArray.size_extract];omega
  | _=>exact h2.elim
 ·obtain⟨⟨e',ag,sz,by_⟩,hs,h1⟩:=yQ2.1 h;clear h;rcases zJe h1 with⟨aK,xs,rfl,au,h2⟩|⟨b,off,m,cap,rfl,h2⟩
  case inr =>
   clear h1;have ex:=V.raw_inv A;obtain⟨O,aa,_⟩:=yWj hs;rw[hT] at O;cases O;cases max with
   | some q=>exact h2.elim
   | none =>
    obtain⟨a1,h3⟩:=h2;obtain⟨⟨p1,p2⟩,hp,h⟩:=yQ2.1 h3;obtain⟨hb,_⟩:=yJd (sl:=true) (ln:=m) (cap:=cap) hA.inv ak al ac hp (by split<;>omega) (λq hq=>by cases hq) (λ_=>rfl);simp only at hb h;have ah:=(yZp aa X.w).2;have J:(execOp a.eval o).run C.P X.w=.ok (.value (.slice (some ⟨b,if cap=p1 then off else off+p1*sz,none⟩) (p2-p1) (cap-p1))) X.w:=by
     unfold execOp;rw[ho];simp only[Instr.sliceAt,Instr.slice,ex,Sem.run_bind,run_underlying hT,Result.andThen_ok,hb,ah,Sem.run_pure,Option.getD_none,Int.toNat_natCast];split
     ·rfl
     ·simp[Addr.add]
    exact yQg J hnd (hA.val (.raw _ trivial) h)
  clear h1;simp only at au h2;replace A:=V.reTag (es:=sz) A;generalize reTag sz aK=tg at au h2 A;obtain⟨O,aa,_⟩:=yWj hs;rw[hT] at O;cases O;obtain⟨D,cap,ex,aE,aG,aF⟩:=V.sl_len A;have aM:ao=none->max=none:=by
   rintro rfl;cases max with
   | none=>rfl
   | some m=>exact h2.elim
  have h3:yQ6 (yXl aL ao xs.length) λp=>chk (∀m,max=some m->m=p.2) (finK o.dst K ad fr (.val (.sl (yW0 tg xs.length p.2 p.1 max) ((xs.drop p.1).take (p.2-p.1)))) X.st ds):=by
   grind
  clear h2;obtain⟨p,hp,ae,h⟩:=yQ2.1 h3;clear h3;obtain⟨p1,p2⟩:=p;simp only at ae h;obtain⟨aH,U⟩:=wQa hp;obtain⟨hb,_⟩:=yJd (sl:=true) (cap:=cap) hA.inv ak al ac hp aG (λm hm=>by have:=ae m hm;simp only at U;omega) aM;simp only at aH U hb;have ah:=(yZp aa X.w).2;have J:(execOp a.eval o).run C.P X.w=.ok (.value (.slice (if (max.getD cap).toNat=p1 then D else D.map (·.add (p1*sz))) (p2-p1) ((max.getD cap).toNat-p1))) X.w:=by
   unfold execOp;rw[ho];simp only[Instr.sliceAt,Instr.slice,ex,Sem.run_bind,run_underlying hT,Result.andThen_ok,hb,ah,Sem.run_pure]
  have aQ:p2<=(max.getD cap).toNat:=by
   cases max with
   | none=>simp only[Option.getD_none,Int.toNat_natCast];omega
   | some m=>have:=ae m rfl;simp only[Option.getD_some];omega
  refine yQg J hnd (hA.val ?_ h);rw[ex] at A;rw[<- au];by_cases E:tg.cap=.nil
  ·rw[E] at aF;obtain⟨rfl,h0,rfl⟩:=aF;obtain rfl:=List.eq_nil_of_length_eq_zero h0;simp only[List.length_nil] at U;have e2:p2=0:=by omega
   have e1:p1=0:=by omega
   subst e1 e2;have e3:(max.getD ((0:Nat):Int)).toNat=0:=by
    cases max with
    | none=>rfl
    | some m=>rw[ae m rfl];rfl
   rw[e3];simp only[yW0,if_pos E,List.drop_nil,List.take_nil,Nat.sub_zero,if_true];exact A
  refine V.slice A aH U aQ ?_ ?_ ?_ ?_
  ·simp only[yW0,if_neg E];split
   ·split<;>rfl
   ·split<;>rfl
  ·simp only[yW0,if_neg E];split
   ·grind
   ·grind
  ·simp only[yW0,if_neg E];split
   ·rename_i m;have:=ae m rfl;rw[if_pos this];simp only[zXf,Option.getD_some];omega
   ·split
    ·rename_i hc;obtain⟨rfl,rfl⟩:=hc;simp only[Option.getD_none,Int.toNat_natCast,Nat.zero_mul,Nat.sub_zero];have:(if cap=0 then D else D.map (·.add 0))=D:=by
      split
      ·rfl
      ·cases D<;>simp[Addr.add]
     grind
    ·trivial
  ·intro g hg;simp only[yW0,if_neg E] at hg;split at hg
   ·grind
   ·grind
 ·exact h.elim
 ·simp only[yVz] at h;unfold arrV at h;split at h
  ·rename_i cs;obtain⟨⟨n',ag,sz⟩,aT,⟨aG,aE,aB⟩,h⟩:=yQ2.1 h;obtain⟨⟨p1,p2⟩,hp,h⟩:=yQ2.1 h;obtain⟨e',O,aa⟩:=zU4 aT;rw[hT] at O;cases O;obtain⟨hb,_,U⟩:=yJd (sl:=false) (ln:=len) (cap:=len) hA.inv ak al ac hp (Nat.le_refl _) (λm hm=>by cases hm) (λ_=>rfl);have hp1:p1=0:=by
    unfold yXl at hp;split at hp
    ·cases hp;rfl
    ·cases hp
   subst hp1;have ah:=(yZp aa X.w).2;generalize aS:a.eval x=aW at A;cases A with
   | cptr D _ vs aj aA hL hc hv =>
    have am:(IV.agg cs).cells=cs:=rfl;rw[am] at aA hv;have J:(execOp a.eval o).run C.P X.w=.ok (.value (.slice (some D) p2 len)) X.w:=by
     unfold execOp;rw[ho];simp only[Option.getD_none,Int.toNat_natCast] at hb;simp only[Instr.sliceAt,aS,Instr.sureAddr,Sem.run_bind,run_underlying hT,Sem.run_pure,Result.andThen_ok,hb,ah,Nat.sub_zero];split
     ·rfl
     ·rw[Nat.zero_mul,yJn D aj,Nat.add_zero];congr 4;obtain⟨b,of,sp⟩:=D;simp only at aj;rw[aj]
    have ab:∀c∈cs.take p2,c.cells=[c]:=λc av=>IV.one_cells (List.all_eq_true.1 aB c (List.mem_of_mem_take av));have aq:∀l:List IV,(∀c∈l,c.cells=[c])->l.flatMap IV.cells=l:=λl=>by
     induction l with
     | nil=>intro _;rfl
     | cons c l ih=>intro hl;rw[List.flatMap_cons,hl c (by simp),ih λd hd=>hl d (by simp[hd])];rfl
    have hp2:(cs.take p2).length=p2:=by rw[List.length_take];simp only at U;omega
    refine yQg J hnd (hA.val ?_ h);have key:=V.sl (B:=C.B) (L:=X.L) (w:=X.w) (some D) len ⟨false,.none,1⟩ (cs.take p2) e (vs.take p2) trivial (by rw[hp2];simp only at U;omega) (by rw[hp2];exact U) (λc av=>by rw[ab c av];rfl)
     (by rw[List.length_take,aA,Nat.mul_one,List.length_take]) (λg hg=>by cases hg) (λhf=>by cases hf)
     (λ_=>⟨D,rfl,aj,by rw[List.length_take];omega,λi r J=>hc i r (by rw[List.getElem?_take] at J;split at J<;>first|exact J|cases J)⟩)
     (λi r c J an=>by
      rw[aq _ ab] at an;rw[List.getElem?_take] at J an;split at J
      ·rename_i hi;rw[if_pos hi] at an;exact hv i r c J an
      ·cases J)
    rw[hp2] at key;exact key
  ·exact h.elim
end
end Go.Iv
namespace Go.Iv
open Go
theorem xGo (off:Nat)(l:List Value)(cs:Array Value)(h:off+l.length<=cs.size) :
  ((l.zipIdx.foldl (λcs (x:Value×Nat)=>cs.setIfInBounds (off+x.2) x.1) cs)).toList=cs.toList.take off++l++cs.toList.drop (off+l.length):=by
 obtain⟨h1,h2⟩:=Great.foldl_set off l 0 cs;apply List.ext_getElem?;grind
theorem yYf {P:Program}(w:World):∀(A:List Field),(∀f∈A,∃i,P.info? f.type=some i) →
  (A.mapM (λf=>do pure (f.offset,<- sizeOf f.type):Field->Sem (Nat×Nat))).run P w=.ok (A.map λf=>(f.offset,P.cellsOf f.type)) w
 | [],_=>by simp
 | f::A,h=>by
  obtain⟨i,D⟩:=h f (by simp);rw[List.mapM_cons];simp only[Sem.run_bind,run_sizeOf w D,Result.andThen_ok,Sem.run_pure,yYf w A (λg E=>h g (by simp[E])),List.map_cons]
theorem zKg {C:Cx}{X0 X:WS}{N:Nat}{fr:Fr}{ds:List Dfd}{a:Act}{T:TypeId}{fs:Array Field}(hI:Inv C X0 N X fr ds a)(hT:C.P.underlying T=some (.struct fs)) :
  ∀(parts:List (Nat×Operand)) (z:Array Value) (cs r:List IV),C.vl X z.toList cs->yWd C.P C.gl fr T cs parts=some r →
   ∃A,Instr.fill ((fs.map λf=>(f.offset,C.P.cellsOf f.type))[·]?) z (parts.map λp=>(p.1,a.eval p.2))=some A/\C.vl X A.toList r
 | [],z,cs,r,hv,h=>by
  simp only[yWd,Option.some.injEq] at h;subst h;exact⟨z,rfl,hv⟩
 | (i,x)::l,z,cs,r,hv,h=>by
  rw[yUd] at h;cases hf:fldI C.P T i with
  | none=>rw[hf] at h;cases h
  | some f =>
   cases hy:evV C.gl fr x with
   | none=>rw[hf,hy] at h;cases h
   | some y =>
    rw[hf,hy] at h;simp only[zWz] at h;split at h
    ·rename_i hc;obtain⟨O,ac,J⟩:=hc;obtain⟨fo,ag,n⟩:=f;obtain⟨az,f',ah,ax,au,am,_⟩:=zGs hf;rw[hT] at ah;cases ah;simp only at O ac J h;obtain⟨_,_,af,ae⟩:=yZt J;have ak:=(xGr hI.good hI.fr hy).1;have aa:=V.cells ak (yU9 af) ae;have ay:C.P.cellsOf f'.type=n:=by have:=zYd am;simp[Program.cellsOf,this]
     have D:((fs.map λf=>(f.offset,C.P.cellsOf f.type))[i]?)=some (fo,n):=by
      grind
     have E:(a.eval x).cells.size=n:=by have:=aa.1;rw[O] at this;simpa using this
     have hzs:z.size=cs.length:=by have:=hv.1;simpa using this
     have U:=xGo fo (a.eval x).cells.toList z (by rw[Array.length_toList,E,hzs,<- O];exact ac);obtain⟨A,ho,an⟩:=zKg hI hT l (((a.eval x).cells.toList.zipIdx.foldl (λcs (x:Value×Nat)=>cs.setIfInBounds (fo+x.2) x.1) z)) (yXe cs fo y.cells) r
      (by rw[U];exact yG5 hv aa) h
     refine⟨A,?_,an⟩;rw[List.map_cons];unfold Instr.fill;simp only[D];have ab:¬ ((decide ((a.eval x).cells.size≠n) || decide (fo+(a.eval x).cells.size > z.size))=true):=by rw[E,hzs];simp;omega
     rw[if_neg ab,<- ho];congr 1;rw[<- Array.foldl_toList,Array.toList_zipIdx]
    ·cases h
theorem VL.flat {B:Nat}{L:Nat->Nat}{w:World}{ag:Bool}{s:Nat}:∀ {rs:List Value} {ys:List IV},VL B L w rs ys->ys.all (fits ag s)=true →
  VL B L w (rs.flatMap λv=>v.cells.toList) (ys.flatMap IV.cells)/\(∀v∈rs,v.cells.size=s)
 | [],[],_,_=>⟨VL.nil,by simp⟩
 | [],_::_,h,_=>by simp[VL] at h
 | _::_,[],h,_=>by simp[VL] at h
 | r::rs,y::ys,h,J=>by
  simp only[List.all_cons,bAt] at J;have h0:=h.2 0 r y rfl rfl;obtain⟨_,A,E,D⟩:=yZt J.1;have hv:=V.cells h0 (yU9 E) D;have hs:VL B L w rs ys:=⟨by have:=h.1;simpa using this,λi a b U O=>h.2 (i+1) a b (by simpa using U) (by simpa using O)⟩
  obtain⟨h1,h2⟩:=VL.flat hs J.2;refine⟨by rw[List.flatMap_cons,List.flatMap_cons];exact hv.append h1,λv hm=>?_⟩;rcases List.mem_cons.1 hm with rfl|hm
  ·have:=hv.1;rw[A] at this;simpa using this
  ·exact h2 v hm
theorem zKz {ag:Bool}{s:Nat}{ys:List IV}(h:ys.all (fits ag s)=true):∀x∈ys,x.cells.length=s:=λx hx=>(yZt (List.all_eq_true.1 h x hx)).2.1
theorem zJv {C:Cx}{X:WS}(E:Good C X){vs rest:List Value}{ys:List IV}{s cap:Nat}{e:TypeId}{cp:Cap}{so:Option IObj}(hv:C.vl X vs (ys.flatMap IV.cells))(hs:∀x∈ys,x.cells.length=s)
  (D:ys.length<=140737488355328) (aa:ys.length<=cap) (A:zXf cp (some ⟨X.w.heap.size,0,none⟩) ys.length cap) (J:∀g,cp=.app g->cap*s<=(vs++rest).length) :
  C.v (X.new (.cells ⟨vs++rest⟩ e) vs.length so) (.slice (some ⟨X.w.heap.size,0,none⟩) ys.length cap) (.sl ⟨true,cp,s⟩ ys):=by
 have O:vs.length=ys.length*s:=by rw[hv.1,yQn ys hs]
 refine .sl _ _ _ _ e vs A D aa hs O (λg E=>?_) (λ_ ad ha=>?_) (λ_=>?_) (λi r c U hc=>((E.new_ext _ _ _).vl hv).2 i r c U hc)
 ·simp only at E;subst E;simp only[zXf,Option.some.injEq,Addr.mk.injEq,and_self,and_true] at A;refine⟨e,(vs++rest).length,?_,J g rfl⟩;rw[<- A];simp only[shq,WS.new,yQm];rfl
 ·cases ha;refine⟨E.B,Nat.zero_mod _,?_⟩;simp only[ety,shq,WS.new,yQm,Option.map_some]
 ·refine⟨_,rfl,rfl,?_,λi r U=>?_⟩
  ·simp[WS.new]
  ·have hi:=(lGs U).1;rw[Nat.zero_add];simp only[WS.new];rw[yQw (yQm X.w _)];grind
section
variable {C:Cx}{X0 X:WS}{N:Nat}{fr:Fr}{ds:List Dfd}{a:Act}{ad:Ad}{K:Kt}{ro:Option Nat}{n:Nat}{Q:Exit->Act->World->Prop}{o:Oper}
variable (hA:At C X0 N X fr ds a ad o.dst)
include hA
theorem xXh {T:TypeId}{parts:Array (Nat×Operand)}(ho:o.op=.build T parts)
  (h:chk (yZ9 C.P T=true) (yQ6 (yZh C.P T) λz=>yQ6 (yWd C.P C.gl fr T z.cells parts.toList) λcs=>finK o.dst K ad fr (.val (.agg cs)) X.st ds)):o.wpIn (yZ7 ro) n C.P a X.w (PK C X0 N K) Q:=by
 obtain⟨A,h1⟩:=h;obtain⟨z,hz,h2⟩:=yQ2.1 h1;clear h1;obtain⟨cs,ae,h⟩:=yQ2.1 h2;clear h2;have hnd:∀c,o.op≠.defer c:=by rw[ho];intro c hc;cases hc
 unfold yZ9 at A;split at A
 ·rename_i fs hT;obtain⟨v,D,hv,J,O⟩:=zY4 hz X.w;have aa:=V.cells (hv C.B X.L X.w) (yU9 O) J;obtain⟨U,E,ab⟩:=zKg hA.inv hT parts.toList v.cells z.cells cs aa ae;have hm:=yYf (P:=C.P) X.w fs.toList (λf hf=>by
   have:=List.all_eq_true.1 A f hf;cases hq:C.P.info? f.type with
   | none=>simp[hq] at this
   | some i=>exact⟨i,rfl⟩)
  have ac:(fs.mapM (λf=>do pure (f.offset,<- sizeOf f.type):Field->Sem (Nat×Nat))).run C.P X.w=.ok (fs.map λf=>(f.offset,C.P.cellsOf f.type)) X.w:=by
   rw[Array.mapM_eq_mapM_toList];simp only[Sem.run_map,hm,Result.andThen_ok];congr 1;grind
  have hr:(execOp a.eval o).run C.P X.w=.ok (.value (.agg U)) X.w:=by
   unfold execOp;rw[ho];have hp:(parts.map λp=>(p.1,a.eval p.2)).toList=parts.toList.map λp=>(p.1,a.eval p.2):=by simp
   simp only[Instr.build,Sem.run_bind,D,Result.andThen_ok,run_underlying hT];rw[ac];simp only[Result.andThen_ok,hp,E,Sem.run_pure]
  exact yQg hr hnd (hA.val ab.agg h)
 ·cases A
theorem zXa {esc:List Nat}{T:TypeId}{len:Nat}{parts:Array (Nat×Operand)}(ho:o.op=.buildSlice T len parts)
  (h:yQ6 (slI C.P T) λe=>chk (yJx len parts.toList=true/\len*e.2.2.1<=16777216/\1<=e.2.2.1) <|
   yQ6 (evL C.gl fr (parts.toList.map (·.2))) λys=>chk (ys.all (fits e.2.1 e.2.2.1)=true) (zG1 esc o.dst e.2.2.1 ys (finK o.dst K ad fr) X.st ds)) :
  o.wpIn (yZ7 ro) n C.P a X.w (PK C X0 N K) Q:=by
 obtain⟨⟨e,ag,s,by_⟩,hs,⟨ab,am,ae⟩,h1⟩:=yQ2.1 h;clear h;obtain⟨ys,hys,aa,h⟩:=yQ2.1 h1;clear h1;simp only at am ae aa h;have hnd:∀c,o.op≠.defer c:=by rw[ho];intro c hc;cases hc
 obtain⟨hT,au,i,hi,hz,_⟩:=yWj hs;have ai:=wJ2 hA.inv.good hA.inv.fr hys;obtain⟨D,av⟩:=VL.flat ai aa;have J:=zKz aa;unfold yJx at ab;have af:parts.toList.map (·.1)=List.range len:=by simpa using ab
 have O:parts.toList.length=len:=by have:=congrArg List.length af;simpa using this
 have A:ys.length=len:=by have:=ai.1;rw[List.length_map,List.length_map,O] at this;exact this.symm
 have E:(parts.map λp=>(p.1,a.eval p.2)).toList=(((parts.toList.map (·.2)).map a.eval).zipIdx 0).map λx=>(x.2,x.1):=by
  rw[Array.toList_map];apply List.ext_getElem
  ·simp
  ·intro k ax aG;have hk:k<parts.toList.length:=by simpa using ax
   have aC:(parts.toList[k]).1=k:=by
    have h0:(parts.toList.map (·.1))[k]?=some (parts.toList[k]).1:=by rw[List.getElem?_map,List.getElem?_eq_getElem hk];rfl
    grind
   grind
 obtain⟨z,aq⟩:=Option.isSome_iff_exists.1 hz;have ac:(zeroValue e).run C.P X.w=.ok z X.w:=by simp only[zeroValue,Sem.run_bind,run_typeInfo X.w hi,Result.andThen_ok,aq,Sem.run_pure]
 have U:∀zc:Array Value,zc.size=len*s->Instr.fill (λi=>some (i*s,s)) zc ((((parts.toList.map (·.2)).map a.eval).zipIdx 0).map λx=>(x.2,x.1)) =
   some (((parts.toList.map (·.2)).map a.eval).flatMap λv=>v.cells.toList).toArray:=λzc ao =>
  Great.fill_whole ae ((parts.toList.map (·.2)).map a.eval) zc av (by simp only[List.length_map];rw[O,ao])
 have ay:(((parts.toList.map (·.2)).map a.eval).flatMap λv=>v.cells.toList).length=len*s:=by rw[D.1,yQn ys J,A]
 have hr:(execOp a.eval o).run C.P X.w=.ok (.value (.slice (some ⟨X.w.heap.size,0,none⟩) len len)) (X.w.alloc (.cells (((parts.toList.map (·.2)).map a.eval).flatMap λv=>v.cells.toList).toArray e)):=by
  unfold execOp;rw[ho];have h2:=(yZp au X.w).2;have ak:¬ len*s > 2 ^ 24:=by omega
  by_cases h0:len*s=0
  ·simp only[Instr.buildSlice,Sem.run_bind,run_underlying hT,Result.andThen_ok,h2,if_neg ak,if_pos h0,Sem.run_pure,E];rw[U _ (by simp)];simp[newRow]
  ·simp only[Instr.buildSlice,Sem.run_bind,run_underlying hT,Result.andThen_ok,h2,if_neg ak,if_neg h0,ac,Sem.run_pure,E];rw[U _ (by simp)];simp[newRow]
 unfold zG1 at h;split at h
 case isTrue =>
  have ah:X.st X.w.heap.size=none:=by
   cases hs:X.st X.w.heap.size with
   | none=>rfl
   | some o=>have:=hA.inv.good.lt hs;omega
  have h:=h X.w.heap.size ah;have hI:=hA.inv.new (.cells ⟨((parts.toList.map (·.2)).map a.eval).flatMap λv=>v.cells.toList⟩ e) 0 (some (.box (ys.flatMap IV.cells))) (λi hi=>by
   cases hi;exact⟨by simp[WS.new],_,e,yQm _ _,(hA.inv.good.new_ext _ 0 _).vl D⟩)
  rw[A] at h;exact yQg hr hnd (yZl (x:=.raw (.slice (some ⟨X.w.heap.size,0,none⟩) len len)) hI hA.ad hA.hd (.raw _ trivial) h)
 have aj:=zJv (cp:=.full) (so:=none) (rest:=[]) (e:=e) hA.inv.good D J (by rw[A];have:len<=len*s:=Nat.le_mul_of_pos_right _ ae;omega) (Nat.le_refl _) rfl (λg hg=>by cases hg);rw[A,List.append_nil,ay] at aj;have hI:=hA.inv.new (.cells ⟨((parts.toList.map (·.2)).map a.eval).flatMap λv=>v.cells.toList⟩ e) (len*s) none (λi hi=>by cases hi);have aw:(X.new (.cells ⟨((parts.toList.map (·.2)).map a.eval).flatMap λv=>v.cells.toList⟩ e) (len*s) none).st=X.st:=by
  funext b;simp only[WS.new];split
  ·rename_i hb;cases hq:X.st b with
   | none=>rfl
   | some o=>have:=hA.inv.good.lt hq;omega
  ·rfl
 exact yQg hr hnd (yZl hI hA.ad hA.hd aj (by rw[aw];exact h))
theorem zYj {T:TypeId}(E:o.op=.makeMap T none)(h0:yQ6 (mapI C.P T) λD=>∀b,giv (X.st b=none) (finK o.dst K ad fr (.val (.raw (.map (some b)))) (X.st.put b (some (.map D.1 []))) ds)) :
  o.wpIn (yZ7 ro) n C.P a X.w (PK C X0 N K) Q:=by
 have hnd:∀c,o.op≠.defer c:=by rw[E];intro c hc;cases hc
 obtain⟨D,_,h⟩:=yQ2.1 h0;have A:X.st X.w.heap.size=none:=by
  cases hs:X.st X.w.heap.size with
  | none=>rfl
  | some o=>have:=hA.inv.good.lt hs;omega
 have J:(execOp a.eval o).run C.P X.w=.ok (.value (.map (some X.w.heap.size))) (X.w.alloc (.map #[] 0)):=by
  unfold execOp;rw[E];simp[Instr.makeMap]
 have U:=hA.inv.new (.map #[] 0) 0 (some (.map D.1 [])) (λi O=>by
  cases O;refine⟨by simp[WS.new],by simp,by simp,#[],0,yQm _ _,rfl,VL.nil,by simp,by simp⟩)
 exact yQg J hnd (yZl (x:=.raw (.map (some X.w.heap.size))) U hA.ad hA.hd (.raw _ trivial) (h X.w.heap.size A))
end
end Go.Iv
namespace Go.Iv
open Go
def WS.obj (X:WS)(g:Nat)(o:Obj)(so:Option IObj):WS :=
 { w:={ X.w with heap:=X.w.heap.setIfInBounds g o },L:=X.L,st:=λb=>if b=g then so else X.st b,d:=X.d }
section
variable {C:Cx}{X:WS}{g:Nat}{o o':Obj}{so:Option IObj}
theorem yVd (A:X.w.heap[g]?=some o):(X.obj g o' so).w.heap[g]?=some o':=(MapKept.heap_set A).1
theorem yX4 (A:X.w.heap[g]?=some o){b:Nat}(D:b≠g):(X.obj g o' so).w.heap[b]?=X.w.heap[b]?:=(MapKept.heap_set A).2 b D
theorem yUx (A:X.w.heap[g]?=some o)(J:∀c T f,o≠.cells c T f)(E:∀c T f,o'≠.cells c T f)(b i:Nat):(X.obj g o' so).w.cell? ⟨b,i,none⟩=X.w.cell? ⟨b,i,none⟩:=by
 by_cases D:b=g
 ·subst D;simp only[World.cell?,yVd A,A];grind
 ·exact yXv (yX4 A D) i
theorem yYj (A:X.w.heap[g]?=some o)(E:∀c T f,o≠.cells c T f)(b:Nat)(p:(TypeId×Nat)×Bool)(hp:shq X.w b=some p):shq (X.obj g o' so).w b=some p:=by
 by_cases D:b=g
 ·subst D;simp only[shq,A] at hp;grind
 ·exact (yZu (yX4 A D)).trans hp
theorem zG0 (E:X.w.heap[g]?=some o)(D:∀c T f,o≠.cells c T f)(A:∀c T f,o'≠.cells c T f){r:Value}{x:IV}(hv:C.v X r x):C.v (X.obj g o' so) r x :=
 V.mono hv (λ_=>Nat.le_refl _) (λb i _=>yUx E D A b i) (yYj E D)
theorem Good.obj (h:Good C X)(J:X.w.heap[g]?=some o)(hn:∀c T f,o≠.cells c T f)(E:∀c T f,o'≠.cells c T f)(U:∀i,so=some i->ObjOk C (X.obj g o' so) g i):Good C (X.obj g o' so) where
 ok b i D:=by
  by_cases A:b=g
  ·subst A;simp only[WS.obj,if_true] at D;exact U i D
  ·have ac:X.st b=some i:=by simpa only[WS.obj,if_neg A] using D
   exact (h.ok b i ac).mono (yX4 J A) rfl (λ_ _ hv=>⟨hv.1,λi r x hr hx=>zG0 J hn E (hv.2 i r x hr hx)⟩)
 gl O x hg:=zG0 J hn E (h.gl O x hg)
 gsh O x hg:=by obtain⟨T',z,hT⟩:=h.gsh O x hg;exact⟨T',z,yYj J hn O _ hT⟩
 B:=by simp only[WS.obj,Array.size_setIfInBounds];exact h.B
 Lnew b D:=by simp only[WS.obj,Array.size_setIfInBounds] at D ⊢;exact h.Lnew b D
 dr:=h.dr
theorem Ext.obj {X0:WS}(A:Ext X0 X)(J:X.w.heap[g]?=some o)(hn:∀c T f,o≠.cells c T f)(E:∀c T f,o'≠.cells c T f)(U:X0.w.heap.size<=g\/X0.st g≠none):Ext X0 (X.obj g o' so) where
 os:=A.os
 tape:=A.tape
 output:=A.output
 size:=by simp only[WS.obj,Array.size_setIfInBounds];exact A.size
 lmono b:=A.lmono b
 cells b i hi:=by
  rw[<- A.cells b i hi];exact yUx J hn E b i
 keep b O hs:=by
  have D:b≠g:=by
   grind
  rw[yX4 J D];exact A.keep b O hs
 dom b O hs:=by
  have D:b≠g:=by
   grind
  simp only[WS.obj];rw[if_neg D];exact A.dom b O hs
 shape b p hp:=yYj J hn b p (A.shape b p hp)
 d:=A.d
theorem Inv.obj {X0:WS}{N:Nat}{fr:Fr}{ds:List Dfd}{a:Act}(h:Inv C X0 N X fr ds a)(J:X.w.heap[g]?=some o)(U:∀c T f,o≠.cells c T f)(D:∀c T f,o'≠.cells c T f)(E:X.st g≠none)
  (aa:∀i,so=some i->ObjOk C (X.obj g o' so) g i):Inv C X0 N (X.obj g o' so) fr ds a:=by
 have O:X0.w.heap.size<=g\/X0.st g≠none:=by
  rcases Nat.lt_or_ge g X0.w.heap.size with ab|ac
  ·exact .inr λh0=>E (h.ext.dom g ab h0)
  ·exact .inl ac
 refine⟨h.good.obj J U D aa,h.ext.obj J U D O,⟨λt=>(h.fr.slot t).mono (λ_ _=>zG0 J U D) ?_,h.fr.inj⟩,h.size,h.ds.mono (λ_ _=>zG0 J U D) ?_⟩
 ·intro b cs _ _ hb _ _;have A:b≠g:=by rintro rfl;exact E hb
  exact⟨yX4 J A,rfl,by simp only[WS.obj];rw[if_neg A];exact hb⟩
 ·intro r h1 h2 _;have A:r≠g:=by rintro rfl;exact E h2
  exact⟨(yX4 J A).trans h1,by simp only[WS.obj];rw[if_neg A];exact h2⟩
end
theorem vKh (m:Option Nat)(s:Nat)(e:Array Nat)(k:Nat):∀c T f,Obj.mapIter m s e k≠.cells c T f:=by intro c T f hc;cases hc
theorem wG5 {v:Value}{k:IV}(h:keyI v=some k)(B:Nat)(L:Nat->Nat)(w:World):V B L w v k:=by
 unfold keyI at h;split at h
 ·split at h
  ·rename_i hs;cases h;exact .raw (.string _) hs
  ·cases h
 ·cases h;exact .raw _ trivial
 ·rename_i cs;obtain⟨l⟩:=cs;split at h
  ·rename_i s A n hl;simp only at hl;subst hl;split at h
   ·rename_i hs;cases h;exact (VL.cons (.raw (.string s) hs) (VL.cons (.raw (.int A n) trivial) VL.nil)).agg
   ·cases h
  ·rename_i s A n hl;simp only at hl;subst hl;cases h;exact (VL.cons (.raw (.bool s) trivial) (VL.cons (.raw (.int A n) trivial) VL.nil)).agg
  ·rename_i A n s hl;simp only at hl;subst hl;cases h;exact (VL.cons (.raw (.int A n) trivial) (VL.cons (.raw (.bool s) trivial) VL.nil)).agg
  ·cases h
 ·cases h
structure KeyRun (P:Program)(kt:TypeId)(kk:KeyK):Prop where
 check:∀(w:World) (em:Bool) {v:Value},yQt kk v=true->(Instr.checkKey em 10000 kt v).run P w=.ok () w
 find:∀(w:World) {x:Value},yQt kk x=true->∀es:List MapEntry,(∀e∈es,yQt kk e.key=true) →
  ((Instr.findKey kt x es).run P w=.ok none w/\∀e∈es,e.key≠x)\/∃j e,(Instr.findKey kt x es).run P w=.ok (some (j,e.val)) w/\es[j]?=some e/\e.key=x
 stays:∀(w:World) {v:Value},yQt kk v=true->(Instr.keyThatStays v v).run P w=.ok v w
theorem KeyRun.plain {P:Program}{E:TypeId}{kk:KeyK}{d:TypeDesc}(hd:P.underlying E=some d)(A:∀v,yQt kk v=true->MapKept.IsKey d v):KeyRun P E kk where
 check w U v hv:=MapKept.run_checkKey hd (A v hv) U 9999
 find w x hx es D:=by
  rcases MapKept.findNow_spec (A x hx) es 0 (λy J=>A _ (D y J)) with⟨h1,h2⟩|⟨j,e,h1,h2,O⟩
  ·exact .inl ⟨MapKept.run_findKey hd h1,h2⟩
  ·exact .inr ⟨j,e,by rw[MapKept.run_findKey hd h1,Nat.zero_add],h2,O⟩
 stays w v hv:=MapKept.run_keyThatStays (A v hv)
theorem zYf {v:Value}(h:yQt .sym v=true):∃s n,v=.agg #[.string s,.int .i64 n]/\s.size<=281474976710656 /\ -9223372036854775808<=n/\n<=9223372036854775807:=by
 cases v with
 | agg cs =>
  obtain⟨l⟩:=cs;change symK l=true at h;unfold symK at h;grind
 | _=>simp[yQt] at h
theorem wKs {P:Program}{k:TypeId}{A:List Field}(h:symT P k A=true):∃f g,A=[f,g]/\P.keyType k=true/\P.keyTypeAt 2 k=true/\P.tiled 2 k=true/\(f.name != "_")=true/\(g.name != "_")=true/\f.offset=0/\g.offset=1/\P.cellsOf k=2/\P.cellsOf f.type=1/\P.cellsOf g.type=1/\0<P.types.size /\
  P.underlying f.type=some .string/\P.underlying g.type=some (.int .i64):=by
 unfold symT at h;grind
theorem KeyRun.ofSym {P:Program}{k:TypeId}{O:Array Field}(hu:P.underlying k=some (.struct O))(h:symT P k O.toList=true):KeyRun P k .sym:=by
 obtain⟨f,g,ak,h1,h2,h3,h4,h5,h6,h7,h8,h9,af,ax,ae,ac⟩:=wKs h;have A:WideMaps.KeyLaw P k:=deep_law (m:=2) (by omega) h2 h3 (by rw[hu]);have key:∀v,yQt .sym v=true->∃l,keyOf P k v=some l:=λv hv=>by
  obtain⟨s,n,rfl,q1,q2,q3⟩:=zYf hv;obtain⟨D,hD⟩:∃D,P.types.size=D+1:=⟨P.types.size-1,by omega⟩
  have J:O=#[f,g]:=by cases O;simp_all
  subst J;have U:(Lit.int .i64 n).wf=true:=by
   simp only[Lit.wf,bAt,dTe];exact⟨q2,q3⟩
  have E:P.keyLits (P.types.size+1) k [.string s,.int .i64 n]=some [.string s.data.toList,.int .i64 n]:=by
   rw[hD];have hs:s.size<=maxLen:=Nat.le_trans q1 (by decide);simp[Program.keyLits,hu,h8,h4,h5,h6,h7,h9,af,ae,ac,hs,U]
  refine⟨.string (keyBytes [.string s.data.toList,.int .i64 n]),?_⟩;unfold keyOf;simp only[hu,h1,Value.formed,h8];simp[Value.cells,E]
 refine⟨λw em v hv=>?_,λw x hx es ab=>?_,λw v hv=>?_⟩
 ·obtain⟨l,hl⟩:=key v hv;exact A.check w em hl
 ·obtain⟨l,hl⟩:=key x hx;exact A.find w hl es λe he=>key _ (ab e he)
 ·obtain⟨l,hl⟩:=key v hv;exact A.stays w hl
theorem xXm {v:Value}(h:yQt .sg v=true):∃b n,v=.agg #[.bool b,.int .u8 n]/\0<=n/\n<=255:=by
 cases v with
 | agg cs =>
  obtain⟨l⟩:=cs;change sgK l=true at h;unfold sgK at h;grind
 | _=>simp[yQt] at h
theorem wUm {P:Program}{k:TypeId}{A:List Field}(h:sgT P k A=true):∃f g,A=[f,g]/\P.keyType k=true/\P.keyTypeAt 2 k=true/\P.tiled 2 k=true/\(f.name != "_")=true/\(g.name != "_")=true/\f.offset=0/\g.offset=1/\P.cellsOf k=2/\P.cellsOf f.type=1/\P.cellsOf g.type=1/\0<P.types.size /\
  P.underlying f.type=some .bool/\P.underlying g.type=some (.int .u8):=by
 unfold sgT at h;grind
theorem KeyRun.ofSg {P:Program}{k:TypeId}{O:Array Field}(hu:P.underlying k=some (.struct O))(h:sgT P k O.toList=true):KeyRun P k .sg:=by
 obtain⟨f,g,aj,h1,h2,h3,h4,h5,h6,h7,h8,h9,af,aw,ae,ac⟩:=wUm h;have A:WideMaps.KeyLaw P k:=deep_law (m:=2) (by omega) h2 h3 (by rw[hu]);have key:∀v,yQt .sg v=true->∃l,keyOf P k v=some l:=λv hv=>by
  obtain⟨b,n,rfl,q2,q3⟩:=xXm hv;obtain⟨D,hD⟩:∃D,P.types.size=D+1:=⟨P.types.size-1,by omega⟩
  have J:O=#[f,g]:=by cases O;simp_all
  subst J;have U:(Lit.int .u8 n).wf=true:=by
   simp only[Lit.wf,bAt,dTe];exact⟨q2,q3⟩
  have E:P.keyLits (P.types.size+1) k [.bool b,.int .u8 n]=some [.bool b,.int .u8 n]:=by
   rw[hD];simp[Program.keyLits,hu,h8,h4,h5,h6,h7,h9,af,ae,ac,U]
  refine⟨.string (keyBytes [.bool b,.int .u8 n]),?_⟩;unfold keyOf;simp only[hu,h1,Value.formed,h8];simp[Value.cells,E]
 refine⟨λw em v hv=>?_,λw x hx es ab=>?_,λw v hv=>?_⟩
 ·obtain⟨l,hl⟩:=key v hv;exact A.check w em hl
 ·obtain⟨l,hl⟩:=key x hx;exact A.find w hl es λe he=>key _ (ab e he)
 ·obtain⟨l,hl⟩:=key v hv;exact A.stays w hl
theorem xXu {v:Value}(h:yQt .pl v=true):∃n b,v=.agg #[.int .i64 n,.bool b] /\ -9223372036854775808<=n/\n<=9223372036854775807:=by
 cases v with
 | agg cs =>
  obtain⟨l⟩:=cs;change plK l=true at h;unfold plK at h;grind
 | _=>simp[yQt] at h
theorem vQ1 {P:Program}{k:TypeId}{A:List Field}(h:plT P k A=true):∃f g,A=[f,g]/\P.keyType k=true/\P.keyTypeAt 2 k=true/\P.tiled 2 k=true/\(f.name != "_")=true/\(g.name != "_")=true/\f.offset=0/\g.offset=1/\P.cellsOf k=2/\P.cellsOf f.type=1/\P.cellsOf g.type=1/\0<P.types.size /\
  P.underlying f.type=some (.int .i64)/\P.underlying g.type=some .bool:=by
 unfold plT at h;grind
theorem KeyRun.ofPl {P:Program}{k:TypeId}{O:Array Field}(hu:P.underlying k=some (.struct O))(h:plT P k O.toList=true):KeyRun P k .pl:=by
 obtain⟨f,g,aj,h1,h2,h3,h4,h5,h6,h7,h8,h9,af,aw,ae,ac⟩:=vQ1 h;have A:WideMaps.KeyLaw P k:=deep_law (m:=2) (by omega) h2 h3 (by rw[hu]);have key:∀v,yQt .pl v=true->∃l,keyOf P k v=some l:=λv hv=>by
  obtain⟨n,b,rfl,q2,q3⟩:=xXu hv;obtain⟨D,hD⟩:∃D,P.types.size=D+1:=⟨P.types.size-1,by omega⟩
  have J:O=#[f,g]:=by cases O;simp_all
  subst J;have U:(Lit.int .i64 n).wf=true:=by
   simp only[Lit.wf,bAt,dTe];exact⟨q2,q3⟩
  have E:P.keyLits (P.types.size+1) k [.int .i64 n,.bool b]=some [.int .i64 n,.bool b]:=by
   rw[hD];simp[Program.keyLits,hu,h8,h4,h5,h6,h7,h9,af,ae,ac,U]
  refine⟨.string (keyBytes [.int .i64 n,.bool b]),?_⟩;unfold keyOf;simp only[hu,h1,Value.formed,h8];simp[Value.cells,E]
 refine⟨λw em v hv=>?_,λw x hx es ab=>?_,λw v hv=>?_⟩
 ·obtain⟨l,hl⟩:=key v hv;exact A.check w em hl
 ·obtain⟨l,hl⟩:=key x hx;exact A.find w hl es λe he=>key _ (ab e he)
 ·obtain⟨l,hl⟩:=key v hv;exact A.stays w hl
theorem zG6 {P:Program}{T:TypeId}{J:KeyK×IV}(h:mapI P T=some J):∃O e,P.underlying T=some (.map O e)/\yZh P e=some J.2/\KeyRun P O J.1:=by
 unfold mapI at h;split at h
 ·rename_i k e E;split at h
  ·rename_i z D A;cases h;exact⟨k,e,E,A,.plain D λv hv=>by cases v<;>simp[yQt,MapKept.IsKey] at hv ⊢⟩
  ·rename_i i z D A;cases h;exact⟨k,e,E,A,.plain D λv hv=>by cases v<;>simp[yQt,MapKept.IsKey] at hv ⊢;exact hv.symm⟩
  ·rename_i U z D A;split at h
   ·rename_i hs;cases h;exact⟨k,e,E,A,.ofSym D hs⟩
   ·split at h
    ·rename_i hs;cases h;exact⟨k,e,E,A,.ofSg D hs⟩
    ·split at h
     ·rename_i hs;cases h;exact⟨k,e,E,A,.ofPl D hs⟩
     ·cases h
  ·cases h
 ·cases h
theorem zK1 {kk:KeyK}{a b:Value}(D:yQt kk a=true)(A:yQt kk b=true):yKk a b=true↔a=b:=by
 cases kk with
 | sym =>
  obtain⟨s,n,rfl,_⟩:=zYf D;obtain⟨s',E,rfl,_⟩:=zYf A;simp[yKk,xUx]
 | sg =>
  obtain⟨s,n,rfl,_⟩:=xXm D;obtain⟨s',E,rfl,_⟩:=xXm A;simp[yKk,xUx]
 | pl =>
  obtain⟨s,n,rfl,_⟩:=xXu D;obtain⟨s',E,rfl,_⟩:=xXu A;simp[yKk,xUx]
 | _=>cases a<;>cases b<;>simp_all [yQt,yKk]
theorem zY9 {kk:KeyK}{key:Value}(E:yQt kk key=true)(y:IV):∀(es:List (Value×IV)),(∀p∈es,yQt kk p.1=true)->(∀p∈es,p.1≠key)->yXo key es=none/\updI key y es=es++[(key,y)]
 | [],_,_=>⟨rfl,rfl⟩
 | (k,x)::es,J,D=>by
  have A:yKk key k=false:=by
   cases O:yKk key k with
   | false=>rfl
   | true=>exact absurd ((zK1 E (J _ (.head _))).1 O).symm (D _ (.head _))
  obtain⟨h1,h2⟩:=zY9 E y es (λp hp=>J p (.tail _ hp)) (λp hp=>D p (.tail _ hp));exact⟨by simp only[yXo,A,bFt,if_false,h1],by simp only[updI,A,bFt,if_false,h2,List.cons_append]⟩
theorem zY8 {kk:KeyK}{key:Value}(D:yQt kk key=true)(y:IV):∀(es:List (Value×IV)) (j:Nat),(∀p∈es,yQt kk p.1=true)->(es.map (·.1)).Nodup->(es.map (·.1))[j]?=some key →
  ∃x,es[j]?=some (key,x)/\yXo key es=some x/\updI key y es=es.set j (key,y)
 | [],_,_,_,h=>by simp at h
 | (k,x)::es,0,E,_,h=>by
  simp only[List.map_cons,List.getElem?_cons_zero,Option.some.injEq] at h;subst h;have J:=(zK1 D D).2 rfl;exact⟨x,rfl,by simp only[yXo,J,if_true],by simp only[updI,J,if_true,List.set_cons_zero]⟩
 | (k,x)::es,j+1,E,O,h=>by
  simp only[List.map_cons,List.getElem?_cons_succ] at h;rw[List.map_cons,List.nodup_cons] at O;have A:yKk key k=false:=by
   cases U:yKk key k with
   | false=>rfl
   | true =>
    have:=(zK1 D (E _ (.head _))).1 U;grind
  obtain⟨z,h1,h2,h3⟩:=zY8 D y es j (λp hp=>E p (.tail _ hp)) O.2 h;exact⟨z,by simpa using h1,by simp only[yXo,A,bFt,if_false,h2],by simp only[updI,A,bFt,if_false,h3,List.set_cons_succ]⟩
theorem xZ0 {P:Program}{A:TypeId}{kk:KeyK}(K:KeyRun P A kk){key:Value}(E:yQt kk key=true)(y:IV)(l:List MapEntry)(es:List (Value×IV))(w:World)
  (J:l.map (·.key)=es.map (·.1)) (O:∀p∈es,yQt kk p.1=true) (hn:(es.map (·.1)).Nodup) :
  ((Instr.findKey A key l).run P w=.ok none w/\yXo key es=none/\updI key y es=es++[(key,y)]/\key ∉ es.map (·.1)) \/
  ∃j e x,(Instr.findKey A key l).run P w=.ok (some (j,e.val)) w/\l[j]?=some e/\e.key=key/\es[j]?=some (key,x)/\yXo key es=some x/\updI key y es=es.set j (key,y):=by
 have hl:∀e∈l,yQt kk e.key=true:=λe he=>by
  have:e.key∈es.map (·.1):=J▸List.mem_map_of_mem he;grind
 rcases K.find w E l hl with⟨h1,h2⟩|⟨j,e,h1,h2,h3⟩
 ·have D:key ∉ es.map (·.1):=λhc=>by
   grind
  obtain⟨h4,h5⟩:=zY9 E y es O λp hp U=>D (U▸List.mem_map_of_mem hp);grind
 ·obtain⟨x,h4,h5,h6⟩:=zY8 E y es j O hn (by rw[<- J,List.getElem?_map,h2,Option.map_some,h3]);grind
section
variable {C:Cx}{X0 X:WS}{N:Nat}{fr:Fr}{ds:List Dfd}{a:Act}{ad:Ad}{K:Kt}{ro:Option Nat}{n:Nat}{Q:Exit->Act->World->Prop}{o:Oper}
variable (hA:At C X0 N X fr ds a ad o.dst)
include hA
theorem zUt {T:TypeId}{x y:Operand}{ok:Bool}(ho:o.op=.lookup T x y ok)
  (h:yQ6 (mapI C.P T) λkz=>yQ6 (evV C.gl fr x) λx=>mapV x λm=>yQ6 (evV C.gl fr y) λi=>keyV i λkey=>zZ7 kz m key ok (finK o.dst K ad fr) X.st ds) :
  o.wpIn (yZ7 ro) n C.P a X.w (PK C X0 N K) Q:=by
 obtain⟨⟨kk,z⟩,hm,h1⟩:=yQ2.1 h;clear h;obtain⟨vx,hx,h2⟩:=yQ2.1 h1;clear h1;obtain⟨m,rfl,h3⟩:=zXp h2;clear h2;obtain⟨vy,hy,h4⟩:=yQ2.1 h3;clear h3;have h5:=xVt (hA.v hy).1 h4;obtain⟨A,h⟩:=h5;generalize al:a.eval y=key at A h;clear h4;simp only at A h;have hnd:∀c,o.op≠.defer c:=by rw[ho];intro c hc;cases hc
 obtain⟨kt,e,hT,hz,D⟩:=zG6 hm;simp only at hz D;have ex:=V.raw_inv (hA.v hx).1;have ey:=al;obtain⟨zv,J,U,_⟩:=zY4 hz X.w;cases m with
 | none =>
  have ae:(Instr.findKey kt key #[].toList).run C.P X.w=.ok none X.w:=by
   rcases D.find X.w A [] (λe he=>by cases he) with⟨h1,_⟩|⟨j,e,_,h2,_⟩
   ·exact h1
   ·simp at h2
  obtain⟨r,O,h⟩:=yQ2.1 h;simp only[zXe,Option.getD_none,Option.isSome_none,Option.some.injEq] at O;have E:(execOp a.eval o).run C.P X.w=.ok (.value (if ok then .tuple #[zv,.bool false] else zv)) X.w:=by
   unfold execOp;rw[ho];simp only[ex,ey,Instr.lookup,Sem.run_bind,run_underlying hT,Result.andThen_ok,Sem.run_pure,D.check _ _ A,
    ae,J]
  refine yQg E hnd (hA.val ?_ h);subst O;cases ok with
  | true=>exact (VL.cons (U _ _ _) (VL.cons (.raw (.bool false) trivial) VL.nil)).tup
  | false=>exact U _ _ _
 | some b =>
  obtain⟨ob,aj,g1⟩:=yQ2.1 h;clear h;obtain⟨aD,es,rfl,ak,g2⟩:=xXy g1;clear g1;subst ak;obtain⟨r,O,h⟩:=yQ2.1 g2;clear g2;simp only[zXe,Option.some.injEq] at O;obtain⟨_,ac,af,ag,aq,hh,ab,aa,_,_⟩:=hA.inv.good.ok b _ aj;rcases xZ0 D A (.raw key) ag.toList es X.w ab ac af with⟨a1,a2,_⟩|⟨j,e',x',a1,a2,a3,a4,a5,_⟩
  ·rw[a2] at O;simp only[Option.getD_none,Option.isSome_none] at O;have E:(execOp a.eval o).run C.P X.w=.ok (.value (if ok then .tuple #[zv,.bool false] else zv)) X.w:=by
    unfold execOp;rw[ho];simp only[ex,ey,Instr.lookup,Sem.run_bind,run_underlying hT,MapKept.run_getObj_map hh,Result.andThen_ok,Sem.run_pure,D.check _ _ A,a1,J]
   refine yQg E hnd (hA.val ?_ h);subst O;cases ok with
   | true=>exact (VL.cons (U _ _ _) (VL.cons (.raw (.bool false) trivial) VL.nil)).tup
   | false=>exact U _ _ _
  ·rw[a5] at O;simp only[Option.getD_some,Option.isSome_some] at O;have hv:C.v X e'.val x':=aa.2 j _ _ (by rw[List.getElem?_map,a2];rfl) (by rw[List.getElem?_map,a4];rfl);have E:(execOp a.eval o).run C.P X.w=.ok (.value (if ok then .tuple #[e'.val,.bool true] else e'.val)) X.w:=by
    unfold execOp;rw[ho];simp only[ex,ey,Instr.lookup,Sem.run_bind,run_underlying hT,MapKept.run_getObj_map hh,Result.andThen_ok,Sem.run_pure,D.check _ _ A,a1]
   refine yQg E hnd (hA.val ?_ h);subst O;cases ok with
   | true=>exact (VL.cons hv (VL.cons (.raw (.bool true) trivial) VL.nil)).tup
   | false=>exact hv
theorem yYc {T:TypeId}{x y z:Operand}(ho:o.op=.mapUpdate T x y z\/o.op=.insert T x y z)
  (h:yQ6 (mapI C.P T) λkz=>yQ6 (evV C.gl fr x) λm=>mapV m λm=>yQ6 (evV C.gl fr y) λi=>keyV i λkey=>yQ6 (evV C.gl fr z) λy=>yY9 kz m key y (finK o.dst K ad fr) X.st ds) :
  o.wpIn (yZ7 ro) n C.P a X.w (PK C X0 N K) Q:=by
 obtain⟨⟨kk,z0⟩,hm,h1⟩:=yQ2.1 h;clear h;obtain⟨vx,hx,h2⟩:=yQ2.1 h1;clear h1;obtain⟨m,rfl,h3⟩:=zXp h2;clear h2;obtain⟨vy,hy,h4⟩:=yQ2.1 h3;clear h3;have h5:=xVt (hA.v hy).1 h4;clear h4;generalize aC:a.eval y=key at h5;obtain⟨vz,hz,U,h⟩:=yQ2.1 h5;clear h5;simp only at U h;have hnd:∀c,o.op≠.defer c:=by intro c hc;rw[hc] at ho;rcases ho with ho|ho<;>cases ho
 obtain⟨kt,e,hT,_,O⟩:=zG6 hm;simp only at O;have ex:=V.raw_inv (hA.v hx).1;have ey:=aC;have ak:=(hA.v hz).1;cases m with
 | none=>exact h.elim
 | some b =>
  obtain⟨ob,am,h1⟩:=yQ2.1 h;clear h;obtain⟨aj,es,rfl,aB,h⟩:=xXy h1;clear h1;subst aB;obtain⟨hL,ai,af,E,J,hh,aa,ab,aE,aA⟩:=hA.inv.good.ok b _ am;have an:∀c T f,Obj.map E J≠.cells c T f:=by intro c T f hc;cases hc
  have ag:∀(e:Array MapEntry) (k:Nat),∀c T f,Obj.map e k≠.cells c T f:=by intro e k c T f hc;cases hc
  have au:∀(A:Array MapEntry) (D:Nat) (es':List (Value×IV)),(Instr.mapUpdate T (.map (some b)) key (a.eval z)).run C.P X.w=.ok () { X.w with heap:=X.w.heap.setIfInBounds b (.map A D) } →
    A.toList.map (·.key)=es'.map (·.1)->C.vl X (A.toList.map (·.val)) (es'.map (·.2))->(∀p∈es',yQt aj p.1=true)->(es'.map (·.1)).Nodup->(∀e∈A.toList,e.born<D) →
    A.toList.Pairwise (λe e'=>e.born<e'.born)->updI key vz es=es'->o.wpIn (yZ7 ro) n C.P a X.w (PK C X0 N K) Q:=by
   intro A D es' al h1 h2 h3 aF h4 h5 h6;have hr:(execOp a.eval o).run C.P X.w=.ok .skip { X.w with heap:=X.w.heap.setIfInBounds b (.map A D) }:=by
    unfold execOp;rcases ho with ho|ho<;>rw[ho]<;>simp only[ex,ey,al,Sem.run_bind,Result.andThen_ok,Sem.run_pure]
   refine xXx hr hnd ?_;have hI:=hA.inv.obj (o':=.map A D) (so:=some (.map aj es')) hh an (ag _ _) (by rw[am];simp) (λi hi=>by
    cases hi;exact⟨hL,h3,aF,A,D,yVd hh,h1,⟨h2.1,λi r x hr hx=>zG0 hh an (ag _ _) (h2.2 i r x hr hx)⟩,h4,h5⟩)
   rw[h6] at h;exact vQu hI hA.ad h
  rcases xZ0 O U vz E.toList es X.w aa ai af with⟨a1,_,a3,aV⟩|⟨j,e',x',a1,a2,a3,a4,_,a6⟩
  ·refine au (E.push { key,val:=a.eval z,born:=J }) (J+1) (es++[(key,vz)]) ?_ ?_ ?_ ?_ ?_ ?_ ?_ a3
   ·simp only[Instr.mapUpdate,Sem.run_bind,run_underlying hT,MapKept.run_getObj_map hh,Result.andThen_ok,O.check _ _ U,a1,MapKept.run_setObj_map _ hh]
   ·simp[aa]
   ·simp only[Array.toList_push,List.map_append,List.map_cons,List.map_nil];exact ab.append (VL.cons ak VL.nil)
   ·grind
   ·grind
   ·grind
   ·grind
  ·have hj:E[j]?=some e':=by simpa using a2
   have ac:(E.modify j λe=>{ e with key:=key,val:=a.eval z }).toList=E.toList.set j { e' with key:=key,val:=a.eval z }:=by
    apply List.ext_getElem?;grind
   refine au (E.modify j λe=>{ e with key:=key,val:=a.eval z }) J (es.set j (key,vz)) ?_ ?_ ?_ ?_ ?_ ?_ ?_ a6
   ·simp only[Instr.mapUpdate,Sem.run_bind,run_underlying hT,MapKept.run_getObj_map hh,Result.andThen_ok,O.check _ _ U,a1,hj,Option.map_some,Option.getD_some,a3,O.stays _ U,MapKept.run_setObj_map _ hh]
   ·rw[ac,List.map_set,List.map_set,aa]
   ·rw[ac,List.map_set,List.map_set];exact ab.set j ak
   ·grind
   ·rw[List.map_set];have ao:(es.map (·.1))[j]?=some key:=by rw[List.getElem?_map,a4];rfl
    rw[show (es.map (·.1)).set j key=es.map (·.1) from by
     apply List.ext_getElem?;intro i;rw[List.getElem?_set];split
     ·rename_i aD;subst aD;rw[if_pos (lGs ao).1,ao]
     ·rfl]
    exact af
   ·grind
   ·have hp:(E.toList.map (·.born)).Pairwise (·<·):=List.pairwise_map.2 aA;have:((E.modify j λe=>{ e with key:=key,val:=a.eval z }).toList.map (·.born))=E.toList.map (·.born):=by
     rw[ac,List.map_set];apply List.ext_getElem?;grind
    grind
theorem zUr {T:TypeId}{x:Operand}(ho:o.op=.range T x)
  (h:yQ6 (mapI C.P T) λ_=>yQ6 (evV C.gl fr x) λx=>mapV x λm=>zVx m (finK o.dst K ad fr) X.st ds) :
  o.wpIn (yZ7 ro) n C.P a X.w (PK C X0 N K) Q:=by
 obtain⟨kz,hm,h1⟩:=yQ2.1 h;clear h;obtain⟨vx,hx,h2⟩:=yQ2.1 h1;clear h1;obtain⟨m,rfl,U⟩:=zXp h2;clear h2;have hnd:∀c,o.op≠.defer c:=by rw[ho];intro c hc;cases hc
 obtain⟨kt,e,hT,_,_⟩:=zG6 hm;have ex:=V.raw_inv (hA.v hx).1;cases m with
 | none=>exact U.elim
 | some b =>
  obtain⟨ob,J,h1⟩:=yQ2.1 U;clear U;obtain⟨E,A,rfl,h⟩:=xJ2 h1;clear h1;obtain⟨hL,hh⟩:=hA.inv.good.ok b _ J;have D:X.st X.w.heap.size=none:=by
   cases hs:X.st X.w.heap.size with
   | none=>rfl
   | some o=>have:=hA.inv.good.lt hs;omega
  have hr:(execOp a.eval o).run C.P X.w=.ok (.value (.pointer (some ⟨X.w.heap.size,0,none⟩))) (X.w.alloc (.mapIter (some b) A #[] A)):=by
   unfold execOp;rw[ho];simp only[ex,run_range_map X.w T kt e b E A hT hh,Sem.run_bind,Result.andThen_ok,Sem.run_pure]
  have O:=hA.inv.new (.mapIter (some b) A #[] A) 0 (some (.iter b A #[] A)) (λi hi=>by
   cases hi;exact⟨by simp[WS.new],yQm _ _⟩)
  exact yQg hr hnd (yZl (dst:=o.dst) (K:=K) (x:=.raw (.pointer (some ⟨X.w.heap.size,0,none⟩))) O hA.ad hA.hd (.raw _ trivial) (h X.w.heap.size D))
theorem xYi {x:Operand}(ho:o.op=.next x false)
  (h:yQ6 (evV C.gl fr x) λx=>adrV x λr=>xG0 r (finK o.dst K ad fr) X.st ds) :
  o.wpIn (yZ7 ro) n C.P a X.w (PK C X0 N K) Q:=by
 obtain⟨vx,hx,h2⟩:=yQ2.1 h;clear h;obtain⟨r,rfl,h3⟩:=xY2 h2;clear h2;obtain⟨ob,ag,h1⟩:=yQ2.1 h3;clear h3;obtain⟨m,A,seen,c0,rfl,h2⟩:=wXb h1;clear h1;obtain⟨om,ao,h1⟩:=yQ2.1 h2;clear h2;obtain⟨O,D,rfl,⟨aa,an⟩,ac,ab⟩:=xJ2 h1;clear h1;have hnd:∀c,o.op≠.defer c:=by rw[ho];intro c hc;cases hc
 have ex:=V.raw_inv (hA.v hx).1;obtain⟨hL,hr⟩:=hA.inv.good.ok r _ ag;obtain⟨_,hb⟩:=hA.inv.good.ok m _ ao;have J:yGp O seen=(leftOf O seen).toList:=by simp[yGp,leftOf]
 rcases run_next_at (P:=C.P) X.w o.type r m A c0 seen O D hr hb (λe he=>(aa e he).1) an with⟨h0,U⟩|⟨e,he,w1,ae,U⟩
 ·have E:(execOp a.eval o).run C.P X.w=.ok (.value (.tuple #[.bool false])) X.w:=by
   unfold execOp;rw[ho];simp only[ex,U,Sem.run_bind,Result.andThen_ok,Sem.run_pure]
  exact yQg E hnd (hA.val (VL.cons (.raw (.bool false) trivial) VL.nil).tup (ac (by rw[J];exact List.eq_nil_of_length_eq_zero (by simpa using h0))))
 ·have E:(execOp a.eval o).run C.P X.w=.ok (.value (.tuple #[.bool true,e.key,e.val])) (ChangeMaps.setBlock w1 r (.mapIter (some m) A (seen.push e.born) D)):=by
   unfold execOp;rw[ho];simp only[ex,U,Sem.run_bind,Result.andThen_ok,Sem.run_pure]
  have ah:e∈O.toList:=by
   rw[<- J] at he;exact (List.mem_filter.1 he).1
  obtain⟨k,hk⟩:=Option.isSome_iff_exists.1 (aa e ah).2;have hc:=ab e (by rw[J];exact he) k hk;have al:∀Y:WS,Y.w=w1->Y.st=X.st->Inv C X0 N Y fr ds a->Y.L=X.L->o.wpIn (yZ7 ro) n C.P a X.w (PK C X0 N K) Q:=by
   intro Y aj ak hI au;have af:Y.w.heap[r]?=some (.mapIter (some m) A seen c0):=by
    rw[aj];rcases ae with rfl|rfl<;>exact hr
   have av:=hI.obj (o':=.mapIter (some m) A (seen.push e.born) D) (so:=some (.iter m A (seen.push e.born) D)) af (vKh _ _ _ _) (vKh _ _ _ _) (by rw[ak,ag];simp) (λi hi=>by
    cases hi;exact⟨by show Y.L r=0;rw[au];exact hL,yVd af⟩)
   refine yQg E hnd ?_;have aA:(Y.obj r (.mapIter (some m) A (seen.push e.born) D) (some (.iter m A (seen.push e.born) D))).w=ChangeMaps.setBlock w1 r (.mapIter (some m) A (seen.push e.born) D):=by
    rw[<- aj];rfl
   have hf:=yZl (dst:=o.dst) (K:=K) (x:=.tup [.raw (.bool true),k,.junk]) (v:=.tuple #[.bool true,e.key,e.val]) av hA.ad hA.hd (VL.cons (.raw (.bool true) trivial) (VL.cons (wG5 hk _ _ _) (VL.cons (.junk _) VL.nil))).tup (by
    have:(Y.obj r (.mapIter (some m) A (seen.push e.born) D) (some (.iter m A (seen.push e.born) D))).st=X.st.put r (some (.iter m A (seen.push e.born) D)):=by
     rw[<- ak];rfl
    rw[this];exact hc)
   grind
  rcases ae with rfl|rfl
  ·exact al X rfl rfl hA.inv rfl
  ·exact al X.drew rfl rfl (hA.inv.ext' hA.inv.good.drew.1 hA.inv.good.drew.2) rfl
theorem xXe {x:Operand}(ho:o.op=.entry x)
  (h:yQ6 (evV C.gl fr x) λx=>adrV x λr=>zWr r (finK o.dst K ad fr) X.st ds) :
  o.wpIn (yZ7 ro) n C.P a X.w (PK C X0 N K) Q:=by
 obtain⟨vx,hx,h2⟩:=yQ2.1 h;clear h;obtain⟨r,rfl,h3⟩:=xY2 h2;clear h2;obtain⟨ob,ae,h1⟩:=yQ2.1 h3;clear h3;obtain⟨m,O,seen,c0,rfl,h2⟩:=wXb h1;clear h1;obtain⟨om,ac,h1⟩:=yQ2.1 h2;clear h2;obtain⟨J,al,rfl,⟨rfl,D⟩,h⟩:=xJ2 h1;clear h1;obtain⟨k,hk,E⟩:=yQ2.1 h;have hnd:∀c,o.op≠.defer c:=by rw[ho];intro c hc;cases hc
 have ex:=V.raw_inv (hA.v hx).1;obtain⟨hL,hr⟩:=hA.inv.good.ok r _ ae;obtain⟨_,hb⟩:=hA.inv.good.ok m _ ac;unfold wX5 at hk;obtain⟨b,ak,ah⟩:=Option.bind_eq_some_iff.1 hk;obtain⟨e,he,ag⟩:=Option.bind_eq_some_iff.1 ah;have ai:=List.mem_of_find?_eq_some he;have au:e.born=b:=by simpa using List.find?_some he
 obtain⟨A,U⟩:∃s:Array Nat,seen=s.push e.born:=by
  refine⟨seen.pop,?_⟩;grind
 subst U;have aa:(execOp a.eval o).run C.P X.w=.ok (.value (.tuple #[e.key,e.val])) X.w:=by
  unfold execOp;rw[ho];simp only[ex,run_entry_at X.w r m O A J c0 e hr hb ai D,Sem.run_bind,Result.andThen_ok,Sem.run_pure]
 have af:wW5 J (A.push e.born)=valI e.val:=by
  unfold wW5;rw[ak,Option.bind_some,he]
 rw[af] at E;have ab:C.v X e.val (valI e.val):=by
  generalize e.val=v;cases v<;>first|exact .raw (.int _ _) trivial|exact .junk _
 exact yQg aa hnd (hA.val (VL.cons (wG5 ag _ _ _) (VL.cons ab VL.nil)).tup E)
end
