/- The layer of ideal values, part I: lengt -/
import Derived.Test.YtabhgbojkjcfjaaGreatDoorJC
import Derived.Great.FillDense
import Derived.Maps.Keyed
import Derived.Maps.RangeRun
set_option linter.all false
namespace Go.Iv
open Go
theorem yZ8 {P:Program}{o:Oper}{b:Builtin}{args:Array Operand}{A:Array TypeId}(D:o.op=.call ⟨.builtin b,args,A⟩)(ρ:Operand->Value)(w:World) :
  (execOp ρ o).run P w=(builtin b A o.type (args.map λ| .const _=>true|_=>false) (args.map ρ)).run P w:=by
 unfold execOp;rw[D];simp only[resolve,Sem.run_bind,Sem.run_pure,Result.andThen_ok,invoke];rfl
section
variable {C:Cx}{X0 X:WS}{N:Nat}{fr:Fr}{ds:List Dfd}{a:Act}{ad:Ad}{K:Kt}{ro:Option Nat}{n:Nat}{Q:Exit->Act->World->Prop}{o:Oper}
theorem V.sl_len {B:Nat}{L:Nat->Nat}{w:World}{r:Value}{t:Tag}{A:List IV}(W:V B L w r (.sl t A)):∃ad cap,r=.slice ad A.length cap/\A.length<=140737488355328/\A.length<=cap/\zXu t.cap ad A.length cap:=by
 cases W with
 | sl ad cap _ _ T vs E D O hs U J G F _=>exact⟨ad,cap,rfl,D,O,E⟩
theorem zW0 {s:Nat}:∀(A:List IV) (l:Nat),(∀x∈A,x.cells.length=s)->(A.drop l).flatMap IV.cells=(A.flatMap IV.cells).drop (l*s)
 | [],l,_=>by simp
 | x::A,0,_=>by simp
 | x::A,l+1,h=>by
  rw[List.drop_succ_cons,zW0 A l (λz D=>h z (by simp[D])),List.flatMap_cons,List.drop_append,h x (by simp)];have h1:(x.cells).drop ((l+1)*s)=[]:=List.drop_eq_nil_of_le (by rw[h x (by simp),Nat.succ_mul];omega);rw[h1,List.nil_append];congr 1;rw[Nat.succ_mul];omega
theorem xJk {s:Nat}:∀(A:List IV) (l:Nat),(∀x∈A,x.cells.length=s)->(A.take l).flatMap IV.cells=(A.flatMap IV.cells).take (l*s)
 | [],l,_=>by simp
 | x::A,0,_=>by simp
 | x::A,l+1,h=>by
  rw[List.take_succ_cons,List.flatMap_cons,xJk A l (λz D=>h z (by simp[D])),List.flatMap_cons,List.take_append,h x (by simp)];have h1:(x.cells).take ((l+1)*s)=x.cells:=List.take_of_length_le (by rw[h x (by simp),Nat.succ_mul];omega);rw[h1];congr 2;rw[Nat.succ_mul];omega
theorem yQy {s:Nat}:∀(A:List IV),(∀x∈A,x.cells.length=s)->(A.flatMap IV.cells).length=A.length*s
 | [],_=>by simp
 | x::A,h=>by rw[List.flatMap_cons,lLa,yQy A (λz D=>h z (by simp[D])),h x (by simp),List.length_cons,Nat.succ_mul];omega
theorem V.slice {B:Nat}{L:Nat->Nat}{w:World}{ad:Option Addr}{len cap l h m:Nat}{D F:Tag}{xs:List IV}(hv:V B L w (.slice ad len cap) (.sl D xs))(aD:l<=h)(aj:h<=xs.length)(aG:h<=m)
  (U:F.es=D.es) (ak:F.fresh=true->D.fresh=true) (ae:zXu F.cap (if m=l then ad else ad.map (·.add (l*D.es))) (h-l) (m-l)) (am:∀g,F.cap=.app g->D.cap=.app g/\m-l<=cap) :
  V B L w (.slice (if m=l then ad else ad.map (·.add (l*D.es))) (h-l) (m-l)) (.sl F ((xs.drop l).take (h-l))):=by
 cases hv with
 | sl _ _ _ _ T vs aA ay aJ hs ao aa E O hc =>
  have J:((xs.drop l).take (h-l)).length=h-l:=by simp;omega
  have key:=V.sl (B:=B) (L:=L) (w:=w) (if m=l then ad else ad.map (·.add (l*D.es))) (m-l) F ((xs.drop l).take (h-l)) T ((vs.drop (l*D.es)).take ((h-l)*D.es));rw[J] at key;have aC:(h-l)*D.es+l*D.es=h*D.es:=by rw[<- Nat.add_mul];congr 1;omega
  have aE:h*D.es<=vs.length:=by rw[ao];exact Nat.mul_le_mul_right _ aj
  refine key ae (by omega) (by omega) (λx hx=>by rw[U];exact hs x (List.mem_of_mem_drop (List.mem_of_mem_take hx))) (by rw[U];simp;omega) ?_ ?_ ?_ ?_
  ·intro g hg;obtain⟨h1,h2⟩:=am g hg;obtain⟨T',k,h3,h4⟩:=aa g h1;refine⟨T',k,h3,Nat.le_trans ?_ h4⟩;rw[U];exact Nat.mul_le_mul_right _ h2
  ·intro hf ax ha;rw[U];split at ha
   ·exact E (ak hf) ax ha
   ·cases hq:ad with
    | none=>simp[hq] at ha
    | some A =>
     simp only[hq,Option.map_some,Option.some.injEq] at ha;subst ha;obtain⟨h1,h2,h3⟩:=E (ak hf) A hq;have al:(A.add (l*D.es)).block=A.block:=by unfold Addr.add;split<;>rfl
     have ah:(A.add (l*D.es)).off=A.off+l*D.es:=by unfold Addr.add;split<;>simp_all
     rw[al,ah,Nat.add_mul_mod_self_right];exact⟨h1,h2,h3⟩
  ·intro av;have ai:l<h:=by
    rcases Nat.lt_or_ge l h with ai|aH
    ·exact ai
    ·exact absurd (List.eq_nil_of_length_eq_zero (by rw[J];omega)) av
   obtain⟨A,ha,W,hL,ab⟩:=O (by rintro rfl;simp at aj;omega);subst ha;rw[if_neg (by omega)];refine⟨A.add (l*D.es),rfl,?_,?_,?_⟩
   ·rw[yVk A W]
   ·rw[yVk A W];simp;omega
   ·intro i r G;rw[yVk A W];rw[List.getElem?_take] at G;split at G
    ·rw[List.getElem?_drop] at G;have:=ab _ r G;rw[<- Nat.add_assoc] at this;exact this
    ·cases G
  ·intro i r c G ac;rw[xJk _ _ (λx hx=>hs x (List.mem_of_mem_drop hx)),zW0 _ _ hs,List.getElem?_take] at ac;rw[List.getElem?_take] at G;split at G
   ·rename_i hi;rw[if_pos hi,List.getElem?_drop] at ac;rw[List.getElem?_drop] at G;exact hc _ r c G ac
   ·cases G
theorem zQo {x:Option Operand}{r:Option Int}(D:Inv C X0 N X fr ds a)(h:yG1 C.gl fr x=some r):(x=none/\r=none)\/∃y k m,x=some y/\r=some m/\a.eval y=.int k m:=by
 cases x with
 | none=>simp only[yG1,Option.some.injEq] at h;exact .inl ⟨rfl,h.symm⟩
 | some y =>
  simp only[yG1] at h;cases A:evV C.gl fr y with
  | none=>rw[A] at h;cases h
  | some z =>
   rw[A] at h;unfold intI at h;split at h
   ·rename_i k m E;cases E;cases h;exact .inr ⟨y,k,m,rfl,rfl,V.raw_inv (wQo D.good D.fr A).1⟩
   ·cases h
theorem yX3 {P:Program}{k:IntKind}{i:Int}{y:Nat}{A:BoundsCode}(h:0<=i/\i<=(y:Int))(w:World):(Instr.sliceBound (.int k i) y A).run P w=.ok i.toNat w:=by
 simp only[Instr.sliceBound,asIntOf,Sem.run_bind,Sem.run_pure,Result.andThen_ok,h,and_self,if_true]
theorem wZv {D A:Option Int}{len:Nat}{p:Nat×Nat}(h:yXm D A len=some p):p.1<=p.2/\p.2<=len:=by
 unfold yXm at h;split at h
 ·rename_i hc;cases h;obtain⟨G,F,E⟩:=hc;exact⟨by simp only;omega,by simp only;omega⟩
 ·cases h
theorem yW7 {lo hi mx:Option Operand}{E A max:Option Int}{sl:Bool}{len ln cap:Nat}{p:Nat×Nat}(D:Inv C X0 N X fr ds a)(h1:yG1 C.gl fr lo=some E)(h2:yG1 C.gl fr hi=some A)
  (h3:yG1 C.gl fr mx=some max) (J:yXm E A len=some p) (aj:len<=cap) (hm:∀m,max=some m->(p.2:Int)<=m/\m<=cap) (O:A=none->max=none) (U:A=none->ln=len:=by first|exact λ_=>rfl|(intro h;simp[h])) :
  (Instr.sliceBounds sl ln cap (lo.map a.eval) (hi.map a.eval) (mx.map a.eval)).run C.P X.w=.ok (p.1,p.2,(max.getD cap).toNat) X.w/\p.1<=p.2/\p.2<=len:=by
 unfold yXm at J;split at J
 ·rename_i hc;cases J;obtain⟨c1,c2,c3⟩:=hc;refine⟨?_,by simp only;omega,by simp only;omega⟩;simp only at hm;rcases zQo D h3 with⟨rfl,rfl⟩|⟨y3,k3,m,rfl,rfl,e3⟩
  ·rcases zQo D h2 with⟨rfl,rfl⟩|⟨y2,k2,q,rfl,rfl,F⟩
   ·obtain rfl:=U rfl;rcases zQo D h1 with⟨rfl,rfl⟩|⟨W,k1,r,rfl,rfl,G⟩
    ·simp only[Instr.sliceBounds,Option.map_none,Sem.run_bind,Sem.run_pure,Result.andThen_ok,Option.getD_none];simp
    ·simp only[Option.getD_some,Option.getD_none] at *;simp only[Instr.sliceBounds,Option.map_none,Option.map_some,G,Sem.run_bind,Sem.run_pure,Result.andThen_ok,Option.isSome_none];rw[yX3 ⟨by omega,by omega⟩];simp
   ·simp only[Option.getD_some,Option.getD_none] at *;rcases zQo D h1 with⟨rfl,rfl⟩|⟨W,k1,r,rfl,rfl,G⟩
    ·simp only[Option.getD_none] at *;simp only[Instr.sliceBounds,Option.map_none,Option.map_some,F,Sem.run_bind,Sem.run_pure,Result.andThen_ok];rw[yX3 ⟨by omega,by omega⟩];simp
    ·simp only[Option.getD_some] at *;simp only[Instr.sliceBounds,Option.map_none,Option.map_some,G,F,Sem.run_bind,Sem.run_pure,Result.andThen_ok];rw[yX3 ⟨by omega,by omega⟩];simp only[Result.andThen_ok];rw[yX3 ⟨by omega,by omega⟩];simp
  ·obtain⟨m1,m2⟩:=hm m rfl;rcases zQo D h2 with⟨rfl,rfl⟩|⟨y2,k2,q,rfl,rfl,F⟩
   ·cases O rfl
   ·simp only[Option.getD_some] at *;rcases zQo D h1 with⟨rfl,rfl⟩|⟨W,k1,r,rfl,rfl,G⟩
    ·simp only[Option.getD_none] at *;simp only[Instr.sliceBounds,Option.map_none,Option.map_some,F,e3,Sem.run_bind,Sem.run_pure,Result.andThen_ok];rw[yX3 ⟨by omega,by omega⟩];simp only[Result.andThen_ok];rw[yX3 ⟨by omega,by omega⟩];simp
    ·simp only[Option.getD_some] at *;simp only[Instr.sliceBounds,Option.map_some,G,F,e3,Sem.run_bind,Sem.run_pure];rw[yX3 ⟨by omega,by omega⟩];simp only[Result.andThen_ok];rw[yX3 ⟨by omega,by omega⟩];simp only[Result.andThen_ok];rw[yX3 ⟨by omega,by omega⟩];simp
 ·cases J
variable (hA:At C X0 N X fr ds a ad o.dst)
include hA
theorem wZq {dr:Bool}{T:TypeId}{x:Operand}(ho:o.op=.call ⟨.builtin .len,⟨[x]⟩,⟨[T]⟩⟩)
  (h:yQ8 (lenI C.P T) λk=>yQ8 (evV C.gl fr x) λx=>lenV dr k x (finK o.dst K ad fr) X.st ds):o.wpIn (yZo ro) n C.P a X.w (PK C X0 N K) Q:=by
 obtain⟨lk,U,h2⟩:=yQ5.1 h;clear h;obtain⟨vx,hx,h⟩:=yQ5.1 h2;clear h2;have A:∀c,o.op≠.defer c:=by rw[ho];intro c hc;cases hc
 have D:=(hA.v hx).1;have key:∀z:Value,(Builtin.len_ #[T] o.type #[a.eval x]).run C.P X.w=.ok z X.w->(execOp a.eval o).run C.P X.w=.ok (.value z) X.w:=by
  intro z hz;rw[yZ8 ho];simp only[builtin,List.map_toArray,List.map_cons,List.map_nil,Sem.run_bind,hz,Result.andThen_ok,Sem.run_pure]
 rcases zZf U with⟨rfl,F⟩|⟨rfl,e,F⟩|⟨rfl,k,e,F⟩|⟨len,e,rfl,F⟩
 ·obtain⟨v,rfl,h2⟩:=zUr h;clear h;have G:=V.raw_inv D;cases v with
  | string s =>
   have hs:s.size<=281474976710656:=V.raw_ok D;refine yQh (key (.int .i64 s.size) ?_) A (hA.val (.raw _ trivial) (h2 λ_=>hs));rw[G];simp[Builtin.len_,run_underlying F,goInt]
  | _=>exact h2.elim
 ·rcases wZw h with⟨tg,xs,rfl,h2⟩|⟨b,off,m,cap,rfl,h2⟩
  case inr =>
   have G:=V.raw_inv D;refine yQh (key (.int .i64 m) ?_) A (hA.val (.raw _ trivial) h2);rw[G];simp[Builtin.len_,run_underlying F,goInt]
  clear h;obtain⟨ai,cap,G,E,_⟩:=V.sl_len D;refine yQh (key (.int .i64 xs.length) ?_) A (hA.val (.raw _ trivial) (h2 λ_=>E));rw[G];simp[Builtin.len_,run_underlying F,goInt]
 ·obtain⟨_,h2⟩:=yKa h;clear h;obtain⟨m,rfl,h⟩:=zJz h2;clear h2;have G:=V.raw_inv D;cases m with
  | none =>
   refine yQh (key (.int .i64 0) ?_) A (hA.val (.raw _ trivial) h);rw[G];simp[Builtin.len_,run_underlying F,goInt]
  | some b =>
   obtain⟨ob,O,h2⟩:=yQ5.1 h;clear h;obtain⟨kk,es,rfl,h⟩:=xVa h2;clear h2;obtain⟨_,_,_,J,W,hh,hk,_⟩:=hA.inv.good.ok b _ O;refine yQh (key (.int .i64 es.length) ?_) A (hA.val (.raw _ trivial) h);have E:J.size=es.length:=by have:=congrArg List.length hk;simpa using this
   rw[G];simp[Builtin.len_,run_underlying F,goInt,getObj,Sem.run,hh,E]
 ·refine yQh (key (.int .i64 len) ?_) A (hA.val (.raw _ trivial) h);simp[Builtin.len_,run_underlying F,goInt]
theorem wZr {T:TypeId}{x:Operand}(G:o.op=.call ⟨.builtin .cap,⟨[x]⟩,⟨[T]⟩⟩)
  (h:yQ8 (slI C.P T) λ_=>yQ8 (evV C.gl fr x) λx=>capV x (finK o.dst K ad fr) X.st ds):o.wpIn (yZo ro) n C.P a X.w (PK C X0 N K) Q:=by
 obtain⟨⟨e,ag,s,by_⟩,F,h1⟩:=yQ5.1 h;clear h;obtain⟨vx,hx,h⟩:=yQ5.1 h1;clear h1;obtain⟨hT,_⟩:=yYo F;have D:∀c,o.op≠.defer c:=by rw[G];intro c hc;cases hc
 have E:=(hA.v hx).1;have key:∀(p:Option Addr) (m c:Nat),a.eval x=.slice p m c->(execOp a.eval o).run C.P X.w=.ok (.value (.int .i64 c)) X.w:=by
  intro p m c W;rw[yZ8 G];simp[builtin,W,Builtin.cap_,run_underlying hT,goInt]
 rcases zUn h with⟨U,xs,rfl,h2⟩|⟨b,off,m,cap,rfl,h2⟩
 ·obtain⟨ae,cap,O,J,ab,A⟩:=V.sl_len E;cases hc:U.cap with
  | nil =>
   rw[hc] at h2 A;obtain⟨rfl,h0,rfl⟩:=A;exact yQh (key _ _ _ O) D (hA.val (.raw _ trivial) h2)
  | full =>
   rw[hc] at h2 A;simp only[zXu] at A;subst A;exact yQh (key _ _ _ O) D (hA.val (.raw _ trivial) h2)
  | none=>rw[hc] at h2;exact h2.elim
  | app g=>rw[hc] at h2;exact h2.elim
 ·exact yQh (key _ _ _ (V.raw_inv E)) D (hA.val (.raw _ trivial) h2)
theorem wZp {O:Array TypeId}{x y:Operand}(E:o.op=.call ⟨.builtin .max,⟨[x,y]⟩,O⟩)
  (h:yQ8 (evV C.gl fr x) λx=>yQ8 (evV C.gl fr y) λy=>intV x λk p=>intV y λD q=>if k=D then finK o.dst K ad fr (.val (.raw (.int k (max p q)))) X.st ds else False) :
  o.wpIn (yZo ro) n C.P a X.w (PK C X0 N K) Q:=by
 obtain⟨vx,W,h2⟩:=yQ5.1 h;clear h;obtain⟨vy,U,J⟩:=yQ5.1 h2;clear h2;obtain⟨k,p,rfl,G⟩:=yVv J;clear J;obtain⟨D,q,rfl,F⟩:=yVv G;clear G;obtain⟨rfl,h⟩:=yZ6 F;clear F;have A:∀c,o.op≠.defer c:=by rw[E];intro c hc;cases hc
 have ex:=V.raw_inv (hA.v W).1;have ey:=V.raw_inv (hA.v U).1;have hr:(execOp a.eval o).run C.P X.w=.ok (.value (.int k (max p q))) X.w:=by
  rw[yZ8 E];simp[builtin,ex,ey,Builtin.max_,Builtin.max2,Int.max_def];split<;>split<;>first
   | rfl
   | (exfalso;omega)
   | (congr;omega)
 exact yQh hr A (hA.val (.raw _ trivial) h)
theorem wZo {O:Array TypeId}{x y:Operand}(E:o.op=.call ⟨.builtin .min,⟨[x,y]⟩,O⟩)
  (h:yQ8 (evV C.gl fr x) λx=>yQ8 (evV C.gl fr y) λy=>intV x λk p=>intV y λD q=>if k=D then finK o.dst K ad fr (.val (.raw (.int k (min p q)))) X.st ds else False) :
  o.wpIn (yZo ro) n C.P a X.w (PK C X0 N K) Q:=by
 obtain⟨vx,W,h2⟩:=yQ5.1 h;clear h;obtain⟨vy,U,J⟩:=yQ5.1 h2;clear h2;obtain⟨k,p,rfl,G⟩:=yVv J;clear J;obtain⟨D,q,rfl,F⟩:=yVv G;clear G;obtain⟨rfl,h⟩:=yZ6 F;clear F;have A:∀c,o.op≠.defer c:=by rw[E];intro c hc;cases hc
 have ex:=V.raw_inv (hA.v W).1;have ey:=V.raw_inv (hA.v U).1;have hr:(execOp a.eval o).run C.P X.w=.ok (.value (.int k (min p q))) X.w:=by
  rw[yZ8 E];simp[builtin,ex,ey,Builtin.min_,Builtin.min2,Int.min_def];split<;>split<;>first
   | rfl
   | (exfalso;omega)
   | (congr;omega)
 exact yQh hr A (hA.val (.raw _ trivial) h)
theorem xKl {T:TypeId}{x:Operand}{lo hi mx:Option Operand}(ho:o.op=.slice T x lo hi mx)
  (h:yQ8 (lenI C.P T) λk=>yQ8 (evV C.gl fr x) λx=>yQ8 (yG1 C.gl fr lo) λlo=>yQ8 (yG1 C.gl fr hi) λhi=>yQ8 (yG1 C.gl fr mx) λmx =>
   yGj k (slI C.P T) x lo hi mx (finK o.dst K ad fr) X.st ds):o.wpIn (yZo ro) n C.P a X.w (PK C X0 N K) Q:=by
 obtain⟨lk,aG,h1⟩:=yQ5.1 h;clear h;obtain⟨vx,hx,h2⟩:=yQ5.1 h1;clear h1;obtain⟨aD,af,h3⟩:=yQ5.1 h2;clear h2;obtain⟨G,ah,h4⟩:=yQ5.1 h3;clear h3;obtain⟨max,U,h⟩:=yQ5.1 h4;clear h4;have ae:∀c,o.op≠.defer c:=by rw[ho];intro c hc;cases hc
 have A:=(hA.v hx).1;rcases zZf aG with⟨rfl,hT⟩|⟨rfl,e,hT⟩|⟨rfl,k,e,hT⟩|⟨len,e,rfl,hT⟩
 ·obtain⟨v,rfl,h2⟩:=zUr h;clear h;cases v with
  | string s =>
   cases max with
   | some m=>exact h2.elim
   | none =>
    obtain⟨p,hp,h⟩:=yQ5.1 h2;clear h2;have ex:=V.raw_inv A;have aP:s.size<=281474976710656:=V.raw_ok A;have aE:mx=none:=by rcases zQo hA.inv U with⟨rfl,_⟩|⟨y,k,m,_,he,_⟩<;>first|rfl|cases he
    subst aE;obtain⟨hb,_⟩:=yW7 (sl:=false) (cap:=s.size) hA.inv af ah U hp (Nat.le_refl _) (λm hm=>by cases hm) (λ_=>rfl);have hr:(execOp a.eval o).run C.P X.w=.ok (.value (.string (s.extract p.1 p.2))) X.w:=by
     unfold execOp;rw[ho];simp only[Option.map_none] at hb;simp only[Instr.sliceAt,Instr.slice,ex,Sem.run_bind,run_underlying hT,Result.andThen_ok,Option.map_none,Option.isSome_none,bFt,if_false,hb,Sem.run_pure]
    refine yQh hr ae (hA.val (.raw _ ?_) h);simp only[zXc,ByteArray.size_extract];omega
  | _=>exact h2.elim
 ·obtain⟨⟨e',ag,sz,by_⟩,hs,h1⟩:=yQ5.1 h;clear h;rcases zUn h1 with⟨aC,xs,rfl,aj,h2⟩|⟨b,off,m,cap,rfl,h2⟩
  case inr =>
   clear h1;have ex:=V.raw_inv A;obtain⟨J,ac,_⟩:=yYo hs;rw[hT] at J;cases J;cases max with
   | some q=>exact h2.elim
   | none =>
    obtain⟨aQ,h3⟩:=h2;obtain⟨⟨O,p2⟩,hp,h⟩:=yQ5.1 h3;obtain⟨hb,_⟩:=yW7 (sl:=true) (ln:=m) (cap:=cap) hA.inv af ah U hp (by split<;>omega) (λq hq=>by cases hq) (λ_=>rfl);simp only at hb h;have am:=(yJ0 ac X.w).2;have hr:(execOp a.eval o).run C.P X.w=.ok (.value (.slice (some ⟨b,if cap=O then off else off+O*sz,none⟩) (p2-O) (cap-O))) X.w:=by
     unfold execOp;rw[ho];simp only[Instr.sliceAt,Instr.slice,ex,Sem.run_bind,run_underlying hT,Result.andThen_ok,hb,am,Sem.run_pure,Option.getD_none,Int.toNat_natCast];split
     ·rfl
     ·simp[Addr.add]
    exact yQh hr ae (hA.val (.raw _ trivial) h)
  clear h1;simp only at aj h2;replace A:=V.reTag (es:=sz) A;generalize reTag sz aC=tg at aj h2 A;obtain⟨J,ac,_⟩:=yYo hs;rw[hT] at J;cases J;obtain⟨E,cap,ex,aL,aI,ak⟩:=V.sl_len A;have av:G=none->max=none:=by
   rintro rfl;cases max with
   | none=>rfl
   | some m=>exact h2.elim
  have h3:yQ8 (yXm aD G xs.length) λp=>chk (∀m,max=some m->m=p.2) (finK o.dst K ad fr (.val (.sl (yXn tg xs.length p.2 p.1 max) ((xs.drop p.1).take (p.2-p.1)))) X.st ds):=by
   cases G with
   | none=>rw[av rfl] at h2 ⊢;exact h2
   | some _=>exact h2
  clear h2;obtain⟨p,hp,F,h⟩:=yQ5.1 h3;clear h3;obtain⟨O,p2⟩:=p;simp only at F h;obtain⟨aw,W⟩:=wZv hp;obtain⟨hb,_⟩:=yW7 (sl:=true) (cap:=cap) hA.inv af ah U hp aI (λm hm=>by have:=F m hm;simp only at W;omega) av;simp only at aw W hb;have am:=(yJ0 ac X.w).2;have hr:(execOp a.eval o).run C.P X.w=.ok (.value (.slice (if (max.getD cap).toNat=O then E else E.map (·.add (O*sz))) (p2-O) ((max.getD cap).toNat-O))) X.w:=by
   unfold execOp;rw[ho];simp only[Instr.sliceAt,Instr.slice,ex,Sem.run_bind,run_underlying hT,Result.andThen_ok,hb,am,Sem.run_pure]
  have aH:p2<=(max.getD cap).toNat:=by
   cases max with
   | none=>simp only[Option.getD_none,Int.toNat_natCast];omega
   | some m=>have:=F m rfl;simp only[Option.getD_some];omega
  refine yQh hr ae (hA.val ?_ h);rw[ex] at A;rw[<- aj];by_cases D:tg.cap=.nil
  ·rw[D] at ak;obtain⟨rfl,h0,rfl⟩:=ak;obtain rfl:=List.eq_nil_of_length_eq_zero h0;simp only[List.length_nil] at W;have e2:p2=0:=by omega
   have e1:O=0:=by omega
   subst e1 e2;have e3:(max.getD ((0:Nat):Int)).toNat=0:=by
    cases max with
    | none=>rfl
    | some m=>rw[F m rfl];rfl
   rw[e3];simp only[yXn,if_pos D,List.drop_nil,List.take_nil,Nat.sub_zero,if_true];exact A
  refine V.slice A aw W aH ?_ ?_ ?_ ?_
  ·simp only[yXn,if_neg D];split
   ·split<;>rfl
   ·split<;>rfl
  ·simp only[yXn,if_neg D];split
   ·split<;>exact id
   ·split<;>exact id
  ·simp only[yXn,if_neg D];split
   ·rename_i m;have:=F m rfl;rw[if_pos this];simp only[zXu,Option.getD_some];omega
   ·split
    ·rename_i hc;obtain⟨rfl,rfl⟩:=hc;simp only[Option.getD_none,Int.toNat_natCast,Nat.zero_mul,Nat.sub_zero];have:(if cap=0 then E else E.map (·.add 0))=E:=by
      split
      ·rfl
      ·cases E<;>simp[Addr.add]
     rw[this];exact ak
    ·trivial
  ·intro g hg;simp only[yXn,if_neg D] at hg;split at hg
   ·split at hg<;>cases hg
   ·split at hg
    ·rename_i hc;obtain⟨rfl,rfl⟩:=hc;exact⟨hg,by simp⟩
    ·cases hg
 ·exact h.elim
 ·exact h.elim
end
end Go.Iv
namespace Go.Iv
open Go
theorem wQk (off:Nat)(l:List Value)(cs:Array Value)(h:off+l.length<=cs.size) :
  ((l.zipIdx.foldl (λcs (x:Value×Nat)=>cs.setIfInBounds (off+x.2) x.1) cs)).toList=cs.toList.take off++l++cs.toList.drop (off+l.length):=by
 obtain⟨h1,h2⟩:=Great.foldl_set off l 0 cs;apply List.ext_getElem?;intro k;have:=h2 k;simp only[Nat.add_zero] at this;rw[Array.getElem?_toList,this];rw[List.append_assoc];by_cases E:k<off
 ·rw[if_neg (by omega),List.getElem?_append_left (by simp;omega),List.getElem?_take,if_pos E];simp
 ·rw[List.getElem?_append_right (by simp;omega)];have D:(cs.toList.take off).length=off:=by simp;omega
  rw[D];by_cases A:k<off+l.length
  ·rw[if_pos ⟨by omega,A,by omega⟩,List.getElem?_append_left (by omega)]
  ·rw[if_neg (by omega),List.getElem?_append_right (by omega),List.getElem?_drop];rw[show off+l.length+(k-off-l.length)=k from by omega];simp
theorem yGm {P:Program}(w:World):∀(A:List Field),(∀f∈A,∃i,P.info? f.type=some i) →
  (A.mapM (λf=>do pure (f.offset,<- sizeOf f.type):Field->Sem (Nat×Nat))).run P w=.ok (A.map λf=>(f.offset,P.cellsOf f.type)) w
 | [],_=>by simp
 | f::A,h=>by
  obtain⟨i,D⟩:=h f (by simp);rw[List.mapM_cons];simp only[Sem.run_bind,run_sizeOf w D,Result.andThen_ok,Sem.run_pure,yGm w A (λg E=>h g (by simp[E])),List.map_cons]
theorem zW2 {C:Cx}{X0 X:WS}{N:Nat}{fr:Fr}{ds:List Dfd}{a:Act}{T:TypeId}{fs:Array Field}(hI:Inv C X0 N X fr ds a)(hT:C.P.underlying T=some (.struct fs)) :
  ∀(parts:List (Nat×Operand)) (z:Array Value) (cs r:List IV),C.vl X z.toList cs->yYi C.P C.gl fr T cs parts=some r →
   ∃A,Instr.fill ((fs.map λf=>(f.offset,C.P.cellsOf f.type))[·]?) z (parts.map λp=>(p.1,a.eval p.2))=some A/\C.vl X A.toList r
 | [],z,cs,r,hv,h=>by
  simp only[yYi,Option.some.injEq] at h;subst h;exact⟨z,rfl,hv⟩
 | (i,x)::l,z,cs,r,hv,h=>by
  rw[zQq] at h;cases hf:fldI C.P T i with
  | none=>rw[hf] at h;cases h
  | some f =>
   cases hy:evV C.gl fr x with
   | none=>rw[hf,hy] at h;cases h
   | some y =>
    rw[hf,hy] at h;simp only[zGx] at h;split at h
    ·rename_i hc;obtain⟨G,aa,F⟩:=hc;obtain⟨fo,ag,n⟩:=f;obtain⟨ax,f',ae,an,U,al,_⟩:=xQp hf;rw[hT] at ae;cases ae;simp only at G aa F h;obtain⟨_,_,ac,ab⟩:=yJf F;have aj:=(wQo hI.good hI.fr hy).1;have O:=V.cells aj (zXq ac) ab;have ao:C.P.cellsOf f'.type=n:=by have:=zUb al;simp[Program.cellsOf,this]
     have D:((fs.map λf=>(f.offset,C.P.cellsOf f.type))[i]?)=some (fo,n):=by
      rw[Array.getElem?_map,an];simp[U,ao]
     have E:(a.eval x).cells.size=n:=by have:=O.1;rw[G] at this;simpa using this
     have hzs:z.size=cs.length:=by have:=hv.1;simpa using this
     have J:=wQk fo (a.eval x).cells.toList z (by rw[Array.length_toList,E,hzs,<- G];exact aa);obtain⟨A,ho,am⟩:=zW2 hI hT l (((a.eval x).cells.toList.zipIdx.foldl (λcs (x:Value×Nat)=>cs.setIfInBounds (fo+x.2) x.1) z)) (yXb cs fo y.cells) r
      (by rw[J];exact zZ2 hv O) h
     refine⟨A,?_,am⟩;rw[List.map_cons];unfold Instr.fill;simp only[D];have W:¬ ((decide ((a.eval x).cells.size≠n) || decide (fo+(a.eval x).cells.size > z.size))=true):=by rw[E,hzs];simp;omega
     rw[if_neg W,<- ho];congr 1;rw[<- Array.foldl_toList,Array.toList_zipIdx]
    ·cases h
theorem VL.flat {B:Nat}{L:Nat->Nat}{w:World}{ag:Bool}{s:Nat}:∀ {rs:List Value} {ys:List IV},VL B L w rs ys->ys.all (fits ag s)=true →
  VL B L w (rs.flatMap λv=>v.cells.toList) (ys.flatMap IV.cells)/\(∀v∈rs,v.cells.size=s)
 | [],[],_,_=>⟨VL.nil,by simp⟩
 | [],_::_,h,_=>by simp[VL] at h
 | _::_,[],h,_=>by simp[VL] at h
 | r::rs,y::ys,h,F=>by
  simp only[List.all_cons,bAt] at F;have W:=h.2 0 r y rfl rfl;obtain⟨_,A,E,D⟩:=yJf F.1;have G:=V.cells W (zXq E) D;have J:VL B L w rs ys:=⟨by have:=h.1;simpa using this,λi a b U O=>h.2 (i+1) a b (by simpa using U) (by simpa using O)⟩
  obtain⟨h1,h2⟩:=VL.flat J F.2;refine⟨by rw[List.flatMap_cons,List.flatMap_cons];exact G.append h1,λv hm=>?_⟩;rcases List.mem_cons.1 hm with rfl|hm
  ·have:=G.1;rw[A] at this;simpa using this
  ·exact h2 v hm
theorem zWk {ag:Bool}{s:Nat}{ys:List IV}(h:ys.all (fits ag s)=true):∀x∈ys,x.cells.length=s:=λx A=>(yJf (List.all_eq_true.1 h x A)).2.1
theorem zV9 {C:Cx}{X:WS}(E:Good C X){vs rest:List Value}{ys:List IV}{s cap:Nat}{e:TypeId}{cp:Cap}{so:Option IObj}(U:C.vl X vs (ys.flatMap IV.cells))(W:∀x∈ys,x.cells.length=s)
  (D:ys.length<=140737488355328) (O:ys.length<=cap) (A:zXu cp (some ⟨X.w.heap.size,0,none⟩) ys.length cap) (F:∀g,cp=.app g->cap*s<=(vs++rest).length) :
  C.v (X.new (.cells ⟨vs++rest⟩ e) vs.length so) (.slice (some ⟨X.w.heap.size,0,none⟩) ys.length cap) (.sl ⟨true,cp,s⟩ ys):=by
 have J:vs.length=ys.length*s:=by rw[U.1,yQy ys W]
 refine .sl _ _ _ _ e vs A D O W J (λg E=>?_) (λ_ ad ha=>?_) (λ_=>?_) (λi r c G hc=>((E.new_ext _ _ _).vl U).2 i r c G hc)
 ·simp only at E;subst E;simp only[zXu,Option.some.injEq,Addr.mk.injEq,and_self,and_true] at A;refine⟨e,(vs++rest).length,?_,F g rfl⟩;rw[<- A];simp only[shq,WS.new,yQr];rfl
 ·cases ha;refine⟨E.B,Nat.zero_mod _,?_⟩;simp only[ety,shq,WS.new,yQr,Option.map_some]
 ·refine⟨_,rfl,rfl,?_,λi r G=>?_⟩
  ·simp[WS.new]
  ·have hi:=(lGs G).1;rw[Nat.zero_add];simp only[WS.new];rw[yZh (yQr X.w _)];simp only;rw[List.getElem?_append_left hi];exact G
section
variable {C:Cx}{X0 X:WS}{N:Nat}{fr:Fr}{ds:List Dfd}{a:Act}{ad:Ad}{K:Kt}{ro:Option Nat}{n:Nat}{Q:Exit->Act->World->Prop}{o:Oper}
variable (hA:At C X0 N X fr ds a ad o.dst)
include hA
theorem xKs {T:TypeId}{parts:Array (Nat×Operand)}(ho:o.op=.build T parts)
  (h:chk (yJa C.P T=true) (yQ8 (yKl C.P T) λz=>yQ8 (yYi C.P C.gl fr T z.cells parts.toList) λcs=>finK o.dst K ad fr (.val (.agg cs)) X.st ds)):o.wpIn (yZo ro) n C.P a X.w (PK C X0 N K) Q:=by
 obtain⟨A,h1⟩:=h;obtain⟨z,hz,h2⟩:=yQ5.1 h1;clear h1;obtain⟨cs,ab,h⟩:=yQ5.1 h2;clear h2;have W:∀c,o.op≠.defer c:=by rw[ho];intro c hc;cases hc
 unfold yJa at A;split at A
 ·rename_i fs hT;obtain⟨v,D,hv,F,G⟩:=zU5 hz X.w;have O:=V.cells (hv C.B X.L X.w) (zXq G) F;obtain⟨J,E,U⟩:=zW2 hA.inv hT parts.toList v.cells z.cells cs O ab;have hm:=yGm (P:=C.P) X.w fs.toList (λf hf=>by
   have:=List.all_eq_true.1 A f hf;cases hq:C.P.info? f.type with
   | none=>simp[hq] at this
   | some i=>exact⟨i,rfl⟩)
  have aa:(fs.mapM (λf=>do pure (f.offset,<- sizeOf f.type):Field->Sem (Nat×Nat))).run C.P X.w=.ok (fs.map λf=>(f.offset,C.P.cellsOf f.type)) X.w:=by
   rw[Array.mapM_eq_mapM_toList];simp only[Sem.run_map,hm,Result.andThen_ok];congr 1;apply Array.ext';simp
  have hr:(execOp a.eval o).run C.P X.w=.ok (.value (.agg J)) X.w:=by
   unfold execOp;rw[ho];have hp:(parts.map λp=>(p.1,a.eval p.2)).toList=parts.toList.map λp=>(p.1,a.eval p.2):=by simp
   simp only[Instr.build,Sem.run_bind,D,Result.andThen_ok,run_underlying hT];rw[aa];simp only[Result.andThen_ok,hp,E,Sem.run_pure]
  exact yQh hr W (hA.val U.agg h)
 ·cases A
theorem zJq {esc:List Nat}{T:TypeId}{len:Nat}{parts:Array (Nat×Operand)}(ho:o.op=.buildSlice T len parts)
  (h:yQ8 (slI C.P T) λe=>chk (yJx len parts.toList=true/\len*e.2.2.1<=16777216) <|
   yQ8 (evL C.gl fr (parts.toList.map (·.2))) λys=>chk (ys.all (fits e.2.1 e.2.2.1)=true) (xQ8 esc o.dst e.2.2.1 ys (finK o.dst K ad fr) X.st ds)) :
  o.wpIn (yZo ro) n C.P a X.w (PK C X0 N K) Q:=by
 obtain⟨⟨e,ag,s,by_⟩,hs,⟨W,al⟩,h1⟩:=yQ5.1 h;clear h;obtain⟨ys,hys,U,h⟩:=yQ5.1 h1;clear h1;simp only at al U h;have ah:∀c,o.op≠.defer c:=by rw[ho];intro c hc;cases hc
 obtain⟨hT,au,i,hi,ae,hz,_⟩:=yYo hs;have ac:=wKi hA.inv.good hA.inv.fr hys;obtain⟨D,av⟩:=VL.flat ac U;have F:=zWk U;unfold yJx at W;have J:parts.toList.map (·.1)=List.range len:=by simpa using W
 have G:parts.toList.length=len:=by have:=congrArg List.length J;simpa using this
 have A:ys.length=len:=by have:=ac.1;rw[List.length_map,List.length_map,G] at this;exact this.symm
 have E:(parts.map λp=>(p.1,a.eval p.2)).toList=(((parts.toList.map (·.2)).map a.eval).zipIdx 0).map λx=>(x.2,x.1):=by
  rw[Array.toList_map];apply List.ext_getElem
  ·simp
  ·intro k ay aG;have hk:k<parts.toList.length:=by simpa using ay
   have ak:(parts.toList[k]).1=k:=by
    have h0:(parts.toList.map (·.1))[k]?=some (parts.toList[k]).1:=by rw[List.getElem?_map,List.getElem?_eq_getElem hk];rfl
    rw[J,List.getElem?_range (by omega)] at h0;exact (Option.some.inj h0).symm
   simp only[List.getElem_map,List.getElem_zipIdx,Nat.zero_add];rw[ak]
 obtain⟨z,aq⟩:=Option.isSome_iff_exists.1 hz;have aa:(zeroValue e).run C.P X.w=.ok z X.w:=by simp only[zeroValue,Sem.run_bind,run_typeInfo X.w hi,Result.andThen_ok,aq,Sem.run_pure]
 have O:∀zc:Array Value,zc.size=len*s->Instr.fill (λi=>some (i*s,s)) zc ((((parts.toList.map (·.2)).map a.eval).zipIdx 0).map λx=>(x.2,x.1)) =
   some (((parts.toList.map (·.2)).map a.eval).flatMap λv=>v.cells.toList).toArray:=λzc ao =>
  Great.fill_whole ae ((parts.toList.map (·.2)).map a.eval) zc av (by simp only[List.length_map];rw[G,ao])
 have az:(((parts.toList.map (·.2)).map a.eval).flatMap λv=>v.cells.toList).length=len*s:=by rw[D.1,yQy ys F,A]
 have hr:(execOp a.eval o).run C.P X.w=.ok (.value (.slice (some ⟨X.w.heap.size,0,none⟩) len len)) (X.w.alloc (.cells (((parts.toList.map (·.2)).map a.eval).flatMap λv=>v.cells.toList).toArray e)):=by
  unfold execOp;rw[ho];have h2:=(yJ0 au X.w).2;have ai:¬ len*s > 2 ^ 24:=by omega
  by_cases h0:len*s=0
  ·simp only[Instr.buildSlice,Sem.run_bind,run_underlying hT,Result.andThen_ok,h2,if_neg ai,if_pos h0,Sem.run_pure,E];rw[O _ (by simp)];simp[newRow]
  ·simp only[Instr.buildSlice,Sem.run_bind,run_underlying hT,Result.andThen_ok,h2,if_neg ai,if_neg h0,aa,Sem.run_pure,E];rw[O _ (by simp)];simp[newRow]
 unfold xQ8 at h;split at h
 case isTrue =>
  have ab:X.st X.w.heap.size=none:=by
   cases hs:X.st X.w.heap.size with
   | none=>rfl
   | some o=>have:=hA.inv.good.lt hs;omega
  have h:=h X.w.heap.size ab;have hI:=hA.inv.new (.cells ⟨((parts.toList.map (·.2)).map a.eval).flatMap λv=>v.cells.toList⟩ e) 0 (some (.box (ys.flatMap IV.cells))) (λi hi=>by
   cases hi;exact⟨by simp[WS.new],_,e,yQr _ _,(hA.inv.good.new_ext _ 0 _).vl D⟩)
  rw[A] at h;exact yQh hr ah (yXi (x:=.raw (.slice (some ⟨X.w.heap.size,0,none⟩) len len)) hI hA.ad hA.hd (.raw _ trivial) h)
 have af:=zV9 (cp:=.full) (so:=none) (rest:=[]) (e:=e) hA.inv.good D F (by rw[A];have:len<=len*s:=Nat.le_mul_of_pos_right _ ae;omega) (Nat.le_refl _) rfl (λg hg=>by cases hg);rw[A,List.append_nil,az] at af;have hI:=hA.inv.new (.cells ⟨((parts.toList.map (·.2)).map a.eval).flatMap λv=>v.cells.toList⟩ e) (len*s) none (λi hi=>by cases hi);have aw:(X.new (.cells ⟨((parts.toList.map (·.2)).map a.eval).flatMap λv=>v.cells.toList⟩ e) (len*s) none).st=X.st:=by
  funext b;simp only[WS.new];split
  ·rename_i hb;cases hq:X.st b with
   | none=>rfl
   | some o=>have:=hA.inv.good.lt hq;omega
  ·rfl
 exact yQh hr ah (yXi hI hA.ad hA.hd af (by rw[aw];exact h))
theorem zUj {T:TypeId}(F:o.op=.makeMap T none)(W:yQ8 (mapI C.P T) λD=>∀b,giv (X.st b=none) (finK o.dst K ad fr (.val (.raw (.map (some b)))) (X.st.put b (some (.map D.1 []))) ds)) :
  o.wpIn (yZo ro) n C.P a X.w (PK C X0 N K) Q:=by
 have E:∀c,o.op≠.defer c:=by rw[F];intro c hc;cases hc
 obtain⟨D,_,h⟩:=yQ5.1 W;have A:X.st X.w.heap.size=none:=by
  cases G:X.st X.w.heap.size with
  | none=>rfl
  | some o=>have:=hA.inv.good.lt G;omega
 have J:(execOp a.eval o).run C.P X.w=.ok (.value (.map (some X.w.heap.size))) (X.w.alloc (.map #[] 0)):=by
  unfold execOp;rw[F];simp[Instr.makeMap]
 have U:=hA.inv.new (.map #[] 0) 0 (some (.map D.1 [])) (λi O=>by
  cases O;refine⟨by simp[WS.new],by simp,by simp,#[],0,yQr _ _,rfl,VL.nil,by simp,by simp⟩)
 exact yQh J E (yXi (x:=.raw (.map (some X.w.heap.size))) U hA.ad hA.hd (.raw _ trivial) (h X.w.heap.size A))
end
end Go.Iv
namespace Go.Iv
open Go
def WS.obj (X:WS)(g:Nat)(o:Obj)(so:Option IObj):WS :=
 { w:={ X.w with heap:=X.w.heap.setIfInBounds g o },L:=X.L,st:=λb=>if b=g then so else X.st b,d:=X.d }
section
variable {C:Cx}{X:WS}{g:Nat}{o o':Obj}{so:Option IObj}
theorem yWo (A:X.w.heap[g]?=some o):(X.obj g o' so).w.heap[g]?=some o':=(MapKept.heap_set A).1
theorem yXr (A:X.w.heap[g]?=some o){b:Nat}(D:b≠g):(X.obj g o' so).w.heap[b]?=X.w.heap[b]?:=(MapKept.heap_set A).2 b D
theorem zZa (D:X.w.heap[g]?=some o)(F:∀c T f,o≠.cells c T f)(A:∀c T f,o'≠.cells c T f)(b i:Nat):(X.obj g o' so).w.cell? ⟨b,i,none⟩=X.w.cell? ⟨b,i,none⟩:=by
 by_cases E:b=g
 ·subst E;simp only[World.cell?,yWo D,D];cases o<;>cases o'<;>first|rfl|exact absurd rfl (F _ _ _)|exact absurd rfl (A _ _ _)
 ·exact yV7 (yXr D E) i
theorem yGr (A:X.w.heap[g]?=some o)(E:∀c T f,o≠.cells c T f)(b:Nat)(p:(TypeId×Nat)×Bool)(hp:shq X.w b=some p):shq (X.obj g o' so).w b=some p:=by
 by_cases D:b=g
 ·subst D;simp only[shq,A] at hp;cases o<;>first|exact absurd rfl (E _ _ _)|cases hp
 ·exact (yJq (yXr A D)).trans hp
theorem xQ4 (E:X.w.heap[g]?=some o)(D:∀c T f,o≠.cells c T f)(A:∀c T f,o'≠.cells c T f){r:Value}{x:IV}(F:C.v X r x):C.v (X.obj g o' so) r x :=
 V.mono F (λ_=>Nat.le_refl _) (λb i _=>zZa E D A b i) (yGr E D)
theorem Good.obj (h:Good C X)(F:X.w.heap[g]?=some o)(O:∀c T f,o≠.cells c T f)(E:∀c T f,o'≠.cells c T f)(J:∀i,so=some i->ObjOk C (X.obj g o' so) g i):Good C (X.obj g o' so) where
 ok b i D:=by
  by_cases A:b=g
  ·subst A;simp only[WS.obj,if_true] at D;exact J i D
  ·have W:X.st b=some i:=by simpa only[WS.obj,if_neg A] using D
   exact (h.ok b i W).mono (yXr F A) rfl (λ_ _ hv=>⟨hv.1,λi r x hr hx=>xQ4 F O E (hv.2 i r x hr hx)⟩)
 gl G x U:=xQ4 F O E (h.gl G x U)
 gsh G x U:=by obtain⟨T',z,hT⟩:=h.gsh G x U;exact⟨T',z,yGr F O G _ hT⟩
 B:=by simp only[WS.obj,Array.size_setIfInBounds];exact h.B
 Lnew b D:=by simp only[WS.obj,Array.size_setIfInBounds] at D ⊢;exact h.Lnew b D
 dr:=h.dr
theorem Ext.obj {X0:WS}(A:Ext X0 X)(J:X.w.heap[g]?=some o)(U:∀c T f,o≠.cells c T f)(G:∀c T f,o'≠.cells c T f)(D:X0.w.heap.size<=g\/X0.st g≠none):Ext X0 (X.obj g o' so) where
 os:=A.os
 tape:=A.tape
 output:=A.output
 size:=by simp only[WS.obj,Array.size_setIfInBounds];exact A.size
 lmono b:=A.lmono b
 cells b i W:=by
  rw[<- A.cells b i W];exact zZa J U G b i
 keep b O F:=by
  have E:b≠g:=by
   rintro rfl;rcases D with h|h
   ·omega
   ·exact h F
  rw[yXr J E];exact A.keep b O F
 dom b O F:=by
  have E:b≠g:=by
   rintro rfl;rcases D with h|h
   ·omega
   ·exact h F
  simp only[WS.obj];rw[if_neg E];exact A.dom b O F
 shape b p hp:=yGr J U b p (A.shape b p hp)
 d:=A.d
theorem Inv.obj {X0:WS}{N:Nat}{fr:Fr}{ds:List Dfd}{a:Act}(h:Inv C X0 N X fr ds a)(F:X.w.heap[g]?=some o)(J:∀c T f,o≠.cells c T f)(D:∀c T f,o'≠.cells c T f)(E:X.st g≠none)
  (O:∀i,so=some i->ObjOk C (X.obj g o' so) g i):Inv C X0 N (X.obj g o' so) fr ds a:=by
 have G:X0.w.heap.size<=g\/X0.st g≠none:=by
  rcases Nat.lt_or_ge g X0.w.heap.size with U|W
  ·exact .inr λh0=>E (h.ext.dom g U h0)
  ·exact .inl W
 refine⟨h.good.obj F J D O,h.ext.obj F J D G,⟨λt=>(h.fr.slot t).mono (λ_ _=>xQ4 F J D) ?_,h.fr.inj⟩,h.size,h.ds.mono (λ_ _=>xQ4 F J D) ?_⟩
 ·intro b cs _ _ hb _ _;have A:b≠g:=by rintro rfl;exact E hb
  exact⟨yXr F A,rfl,by simp only[WS.obj];rw[if_neg A];exact hb⟩
 ·intro r h1 h2 _;have A:r≠g:=by rintro rfl;exact E h2
  exact⟨(yXr F A).trans h1,by simp only[WS.obj];rw[if_neg A];exact h2⟩
end
theorem vVb (m:Option Nat)(s:Nat)(e:Array Nat)(k:Nat):∀c T f,Obj.mapIter m s e k≠.cells c T f:=by intro c T f hc;cases hc
theorem wUg {v:Value}{k:IV}(h:keyI v=some k)(B:Nat)(L:Nat->Nat)(w:World):V B L w v k:=by
 unfold keyI at h;split at h
 ·split at h
  ·rename_i A;cases h;exact .raw (.string _) A
  ·cases h
 ·cases h;exact .raw _ trivial
 ·rename_i cs;obtain⟨l⟩:=cs;split at h
  ·rename_i s E n D;simp only at D;subst D;split at h
   ·rename_i A;cases h;exact (VL.cons (.raw (.string s) A) (VL.cons (.raw (.int E n) trivial) VL.nil)).agg
   ·cases h
  ·cases h
 ·cases h
structure KeyRun (P:Program)(kt:TypeId)(kk:KeyK):Prop where
 check:∀(w:World) (em:Bool) {v:Value},yZr kk v=true->(Instr.checkKey em 10000 kt v).run P w=.ok () w
 find:∀(w:World) {x:Value},yZr kk x=true->∀es:List MapEntry,(∀e∈es,yZr kk e.key=true) →
  ((Instr.findKey kt x es).run P w=.ok none w/\∀e∈es,e.key≠x)\/∃j e,(Instr.findKey kt x es).run P w=.ok (some (j,e.val)) w/\es[j]?=some e/\e.key=x
 stays:∀(w:World) {v:Value},yZr kk v=true->(Instr.keyThatStays v v).run P w=.ok v w
theorem KeyRun.plain {P:Program}{F:TypeId}{G:KeyK}{d:TypeDesc}(hd:P.underlying F=some d)(A:∀v,yZr G v=true->MapKept.IsKey d v):KeyRun P F G where
 check w W v D:=MapKept.run_checkKey hd (A v D) W 9999
 find w x O es E:=by
  rcases MapKept.findNow_spec (A x O) es 0 (λy J=>A _ (E y J)) with⟨h1,h2⟩|⟨j,e,h1,h2,U⟩
  ·exact .inl ⟨MapKept.run_findKey hd h1,h2⟩
  ·exact .inr ⟨j,e,by rw[MapKept.run_findKey hd h1,Nat.zero_add],h2,U⟩
 stays w v D:=MapKept.run_keyThatStays (A v D)
theorem zUe {v:Value}(h:yZr .sym v=true):∃s n,v=.agg #[.string s,.int .i64 n]/\s.size<=281474976710656 /\ -9223372036854775808<=n/\n<=9223372036854775807:=by
 cases v with
 | agg cs =>
  obtain⟨l⟩:=cs;change symK l=true at h;unfold symK at h;split at h
  ·rename_i s n;simp only[bAt,dTe] at h;exact⟨s,n,rfl,h.1.1,h.1.2,h.2⟩
  ·cases h
 | _=>simp[yZr] at h
theorem wVw {P:Program}{k:TypeId}{G:List Field}(h:symT P k G=true):∃f g,G=[f,g]/\P.keyType k=true/\P.keyTypeAt 2 k=true/\P.tiled 2 k=true/\(f.name != "_")=true/\(g.name != "_")=true/\f.offset=0/\g.offset=1/\P.cellsOf k=2/\P.cellsOf f.type=1/\P.cellsOf g.type=1/\0<P.types.size /\
  P.underlying f.type=some .string/\P.underlying g.type=some (.int .i64):=by
 unfold symT at h;split at h
 ·rename_i f g;simp only[bAt,dTe,beq_iff_eq] at h;obtain⟨⟨⟨⟨⟨⟨⟨⟨⟨⟨⟨⟨h1,h2⟩,h3⟩,h4⟩,h5⟩,W⟩,U⟩,O⟩,J⟩,F⟩,E⟩,D⟩,A⟩:=h;refine⟨f,g,rfl,h1,h2,h3,h4,h5,W,U,O,J,F,E,?_,?_⟩
  ·split at D
   ·assumption
   ·cases D
  ·split at A
   ·assumption
   ·cases A
 ·cases h
theorem KeyRun.ofSym {P:Program}{k:TypeId}{O:Array Field}(W:P.underlying k=some (.struct O))(h:symT P k O.toList=true):KeyRun P k .sym:=by
 obtain⟨f,g,al,h1,h2,h3,h4,h5,h6,h7,h8,h9,ae,ay,ac,ab⟩:=wVw h;have A:WideMaps.KeyLaw P k:=deep_law (m:=2) (by omega) h2 h3 (by rw[W]);have key:∀v,yZr .sym v=true->∃l,keyOf P k v=some l:=λv F=>by
  obtain⟨s,n,rfl,q1,q2,q3⟩:=zUe F;obtain⟨D,hD⟩:∃D,P.types.size=D+1:=⟨P.types.size-1,by omega⟩
  have J:O=#[f,g]:=by cases O;simp_all
  subst J;have U:(Lit.int .i64 n).wf=true:=by
   simp only[Lit.wf,bAt,dTe];exact⟨q2,q3⟩
  have E:P.keyLits (P.types.size+1) k [.string s,.int .i64 n]=some [.string s.data.toList,.int .i64 n]:=by
   rw[hD];have hs:s.size<=maxLen:=Nat.le_trans q1 (by decide);simp[Program.keyLits,W,h8,h4,h5,h6,h7,h9,ae,ac,ab,hs,U]
  refine⟨.string (keyBytes [.string s.data.toList,.int .i64 n]),?_⟩;unfold keyOf;simp only[W,h1,Value.formed,h8];simp[Value.cells,E]
 refine⟨λw em v F=>?_,λw x hx es aa=>?_,λw v F=>?_⟩
 ·obtain⟨l,G⟩:=key v F;exact A.check w em G
 ·obtain⟨l,G⟩:=key x hx;exact A.find w G es λe he=>key _ (aa e he)
 ·obtain⟨l,G⟩:=key v F;exact A.stays w G
theorem xQb {P:Program}{T:TypeId}{F:KeyK×IV}(h:mapI P T=some F):∃J e,P.underlying T=some (.map J e)/\yKl P e=some F.2/\KeyRun P J F.1:=by
 unfold mapI at h;split at h
 ·rename_i k e G;split at h
  ·rename_i z D A;cases h;exact⟨k,e,G,A,.plain D λv E=>by cases v<;>simp[yZr,MapKept.IsKey] at E ⊢⟩
  ·rename_i i z D A;cases h;exact⟨k,e,G,A,.plain D λv E=>by cases v<;>simp[yZr,MapKept.IsKey] at E ⊢;exact E.symm⟩
  ·rename_i U z D A;split at h
   ·rename_i O;cases h;exact⟨k,e,G,A,.ofSym D O⟩
   ·cases h
  ·cases h
 ·cases h
theorem zVf {A:KeyK}{a b:Value}(E:yZr A a=true)(D:yZr A b=true):yYg a b=true↔a=b:=by
 cases A with
 | sym =>
  obtain⟨s,n,rfl,_⟩:=zUe E;obtain⟨s',F,rfl,_⟩:=zUe D;simp[yYg,vKe]
 | _=>cases a<;>cases b<;>simp_all [yZr,yYg]
theorem xWm {D:KeyK}{key:Value}(F:yZr D key=true)(y:IV):∀(es:List (Value×IV)),(∀p∈es,yZr D p.1=true)->(∀p∈es,p.1≠key)->yVj key es=none/\updI key y es=es++[(key,y)]
 | [],_,_=>⟨rfl,rfl⟩
 | (k,x)::es,G,E=>by
  have A:yYg key k=false:=by
   cases J:yYg key k with
   | false=>rfl
   | true=>exact absurd ((zVf F (G _ (.head _))).1 J).symm (E _ (.head _))
  obtain⟨h1,h2⟩:=xWm F y es (λp hp=>G p (.tail _ hp)) (λp hp=>E p (.tail _ hp));exact⟨by simp only[yVj,A,bFt,if_false,h1],by simp only[updI,A,bFt,if_false,h2,List.cons_append]⟩
theorem xWl {G:KeyK}{key:Value}(D:yZr G key=true)(y:IV):∀(es:List (Value×IV)) (j:Nat),(∀p∈es,yZr G p.1=true)->(es.map (·.1)).Nodup->(es.map (·.1))[j]?=some key →
  ∃x,es[j]?=some (key,x)/\yVj key es=some x/\updI key y es=es.set j (key,y)
 | [],_,_,_,h=>by simp at h
 | (k,x)::es,0,F,_,h=>by
  simp only[List.map_cons,List.getElem?_cons_zero,Option.some.injEq] at h;subst h;have J:=(zVf D D).2 rfl;exact⟨x,rfl,by simp only[yVj,J,if_true],by simp only[updI,J,if_true,List.set_cons_zero]⟩
 | (k,x)::es,j+1,F,E,h=>by
  simp only[List.map_cons,List.getElem?_cons_succ] at h;rw[List.map_cons,List.nodup_cons] at E;have A:yYg key k=false:=by
   cases O:yYg key k with
   | false=>rfl
   | true =>
    have:=(zVf D (F _ (.head _))).1 O;simp only at this;subst this;exact absurd (lMg h) E.1
  obtain⟨z,h1,h2,U⟩:=xWl D y es j (λp hp=>F p (.tail _ hp)) E.2 h;exact⟨z,by simpa using h1,by simp only[yVj,A,bFt,if_false,h2],by simp only[updI,A,bFt,if_false,U,List.set_cons_succ]⟩
theorem xJm {P:Program}{F:TypeId}{E:KeyK}(K:KeyRun P F E){key:Value}(J:yZr E key=true)(y:IV)(l:List MapEntry)(es:List (Value×IV))(w:World)
  (G:l.map (·.key)=es.map (·.1)) (O:∀p∈es,yZr E p.1=true) (hn:(es.map (·.1)).Nodup) :
  ((Instr.findKey F key l).run P w=.ok none w/\yVj key es=none/\updI key y es=es++[(key,y)]/\key ∉ es.map (·.1)) \/
  ∃j e x,(Instr.findKey F key l).run P w=.ok (some (j,e.val)) w/\l[j]?=some e/\e.key=key/\es[j]?=some (key,x)/\yVj key es=some x/\updI key y es=es.set j (key,y):=by
 have hl:∀e∈l,yZr E e.key=true:=λe U=>by
  have:e.key∈es.map (·.1):=G▸List.mem_map_of_mem U;obtain⟨p,hp,A⟩:=List.mem_map.1 this;rw[<- A];exact O p hp
 rcases K.find w J l hl with⟨h1,h2⟩|⟨j,e,h1,h2,h3⟩
 ·have D:key ∉ es.map (·.1):=λhc=>by
   rw[<- G] at hc;obtain⟨e,U,A⟩:=List.mem_map.1 hc;exact h2 e U A
  obtain⟨h4,W⟩:=xWm J y es O λp hp A=>D (A▸List.mem_map_of_mem hp);exact .inl ⟨h1,h4,W,D⟩
 ·obtain⟨x,h4,W,h6⟩:=xWl J y es j O hn (by rw[<- G,List.getElem?_map,h2,Option.map_some,h3]);exact .inr ⟨j,e,x,h1,h2,h3,h4,W,h6⟩
section
variable {C:Cx}{X0 X:WS}{N:Nat}{fr:Fr}{ds:List Dfd}{a:Act}{ad:Ad}{K:Kt}{ro:Option Nat}{n:Nat}{Q:Exit->Act->World->Prop}{o:Oper}
variable (hA:At C X0 N X fr ds a ad o.dst)
include hA
theorem xZt {T:TypeId}{x y:Operand}{ok:Bool}(ho:o.op=.lookup T x y ok)
  (h:yQ8 (mapI C.P T) λkz=>yQ8 (evV C.gl fr x) λx=>mapV x λm=>yQ8 (evV C.gl fr y) λi=>keyV i λkey=>zXh kz m key ok (finK o.dst K ad fr) X.st ds) :
  o.wpIn (yZo ro) n C.P a X.w (PK C X0 N K) Q:=by
 obtain⟨⟨kk,z⟩,hm,h1⟩:=yQ5.1 h;clear h;obtain⟨vx,hx,h2⟩:=yQ5.1 h1;clear h1;obtain⟨m,rfl,h3⟩:=zJz h2;clear h2;obtain⟨vy,hy,h4⟩:=yQ5.1 h3;clear h3;have h5:=xYz (hA.v hy).1 h4;obtain⟨A,h⟩:=h5;generalize aj:a.eval y=key at A h;clear h4;simp only at A h;have U:∀c,o.op≠.defer c:=by rw[ho];intro c hc;cases hc
 obtain⟨kt,e,hT,hz,D⟩:=xQb hm;simp only at hz D;have ex:=V.raw_inv (hA.v hx).1;have ey:=aj;obtain⟨zv,F,J,_⟩:=zU5 hz X.w;cases m with
 | none =>
  have ab:(Instr.findKey kt key #[].toList).run C.P X.w=.ok none X.w:=by
   rcases D.find X.w A [] (λe he=>by cases he) with⟨h1,_⟩|⟨j,e,_,h2,_⟩
   ·exact h1
   ·simp at h2
  obtain⟨r,G,h⟩:=yQ5.1 h;simp only[zYa,Option.getD_none,Option.isSome_none,Option.some.injEq] at G;have E:(execOp a.eval o).run C.P X.w=.ok (.value (if ok then .tuple #[zv,.bool false] else zv)) X.w:=by
   unfold execOp;rw[ho];simp only[ex,ey,Instr.lookup,Sem.run_bind,run_underlying hT,Result.andThen_ok,Sem.run_pure,D.check _ _ A,
    ab,F]
  refine yQh E U (hA.val ?_ h);subst G;cases ok with
  | true=>exact (VL.cons (J _ _ _) (VL.cons (.raw (.bool false) trivial) VL.nil)).tup
  | false=>exact J _ _ _
 | some b =>
  obtain⟨ob,ah,g1⟩:=yQ5.1 h;clear h;obtain⟨aD,es,rfl,ai,g2⟩:=xVa g1;clear g1;subst ai;obtain⟨r,G,h⟩:=yQ5.1 g2;clear g2;simp only[zYa,Option.some.injEq] at G;obtain⟨_,aa,ac,ae,ao,hh,W,O,_,_⟩:=hA.inv.good.ok b _ ah;rcases xJm D A (.raw key) ae.toList es X.w W aa ac with⟨a1,a2,_⟩|⟨j,e',x',a1,a2,a3,a4,a5,_⟩
  ·rw[a2] at G;simp only[Option.getD_none,Option.isSome_none] at G;have E:(execOp a.eval o).run C.P X.w=.ok (.value (if ok then .tuple #[zv,.bool false] else zv)) X.w:=by
    unfold execOp;rw[ho];simp only[ex,ey,Instr.lookup,Sem.run_bind,run_underlying hT,MapKept.run_getObj_map hh,Result.andThen_ok,Sem.run_pure,D.check _ _ A,a1,F]
   refine yQh E U (hA.val ?_ h);subst G;cases ok with
   | true=>exact (VL.cons (J _ _ _) (VL.cons (.raw (.bool false) trivial) VL.nil)).tup
   | false=>exact J _ _ _
  ·rw[a5] at G;simp only[Option.getD_some,Option.isSome_some] at G;have hv:C.v X e'.val x':=O.2 j _ _ (by rw[List.getElem?_map,a2];rfl) (by rw[List.getElem?_map,a4];rfl);have E:(execOp a.eval o).run C.P X.w=.ok (.value (if ok then .tuple #[e'.val,.bool true] else e'.val)) X.w:=by
    unfold execOp;rw[ho];simp only[ex,ey,Instr.lookup,Sem.run_bind,run_underlying hT,MapKept.run_getObj_map hh,Result.andThen_ok,Sem.run_pure,D.check _ _ A,a1]
   refine yQh E U (hA.val ?_ h);subst G;cases ok with
   | true=>exact (VL.cons hv (VL.cons (.raw (.bool true) trivial) VL.nil)).tup
   | false=>exact hv
theorem yGi {T:TypeId}{x y z:Operand}(ho:o.op=.mapUpdate T x y z\/o.op=.insert T x y z)
  (h:yQ8 (mapI C.P T) λkz=>yQ8 (evV C.gl fr x) λm=>mapV m λm=>yQ8 (evV C.gl fr y) λi=>keyV i λkey=>yQ8 (evV C.gl fr z) λy=>yGg kz m key y (finK o.dst K ad fr) X.st ds) :
  o.wpIn (yZo ro) n C.P a X.w (PK C X0 N K) Q:=by
 obtain⟨⟨kk,z0⟩,hm,h1⟩:=yQ5.1 h;clear h;obtain⟨vx,hx,h2⟩:=yQ5.1 h1;clear h1;obtain⟨m,rfl,h3⟩:=zJz h2;clear h2;obtain⟨vy,hy,h4⟩:=yQ5.1 h3;clear h3;have h5:=xYz (hA.v hy).1 h4;clear h4;generalize aI:a.eval y=key at h5;obtain⟨vz,hz,F,h⟩:=yQ5.1 h5;clear h5;simp only at F h;have aG:∀c,o.op≠.defer c:=by intro c hc;rw[hc] at ho;rcases ho with ho|ho<;>cases ho
 obtain⟨kt,e,hT,_,O⟩:=xQb hm;simp only at O;have ex:=V.raw_inv (hA.v hx).1;have ey:=aI;have am:=(hA.v hz).1;cases m with
 | none=>exact h.elim
 | some b =>
  obtain⟨ob,au,h1⟩:=yQ5.1 h;clear h;obtain⟨al,es,rfl,aH,h⟩:=xVa h1;clear h1;subst aH;obtain⟨hL,W,ae,E,J,hh,U,ac,G,aq⟩:=hA.inv.good.ok b _ au;have av:∀c T f,Obj.map E J≠.cells c T f:=by intro c T f hc;cases hc
  have ah:∀(e:Array MapEntry) (k:Nat),∀c T f,Obj.map e k≠.cells c T f:=by intro e k c T f hc;cases hc
  have az:∀(A:Array MapEntry) (D:Nat) (aa:List (Value×IV)),(Instr.mapUpdate T (.map (some b)) key (a.eval z)).run C.P X.w=.ok () { X.w with heap:=X.w.heap.setIfInBounds b (.map A D) } →
    A.toList.map (·.key)=aa.map (·.1)->C.vl X (A.toList.map (·.val)) (aa.map (·.2))->(∀p∈aa,yZr al p.1=true)->(aa.map (·.1)).Nodup->(∀e∈A.toList,e.born<D) →
    A.toList.Pairwise (λe e'=>e.born<e'.born)->updI key vz es=aa->o.wpIn (yZo ro) n C.P a X.w (PK C X0 N K) Q:=by
   intro A D aa ao h1 h2 h3 aK h4 h5 h6;have hr:(execOp a.eval o).run C.P X.w=.ok .skip { X.w with heap:=X.w.heap.setIfInBounds b (.map A D) }:=by
    unfold execOp;rcases ho with ho|ho<;>rw[ho]<;>simp only[ex,ey,ao,Sem.run_bind,Result.andThen_ok,Sem.run_pure]
   refine xV9 hr aG ?_;have hI:=hA.inv.obj (o':=.map A D) (so:=some (.map al aa)) hh av (ah _ _) (by rw[au];simp) (λi hi=>by
    cases hi;exact⟨hL,h3,aK,A,D,yWo hh,h1,⟨h2.1,λi r x hr hx=>xQ4 hh av (ah _ _) (h2.2 i r x hr hx)⟩,h4,h5⟩)
   rw[h6] at h;exact vX2 hI hA.ad h
  rcases xJm O F vz E.toList es X.w U W ae with⟨a1,_,a3,aL⟩|⟨j,e',x',a1,a2,a3,a4,_,a6⟩
  ·refine az (E.push { key,val:=a.eval z,born:=J }) (J+1) (es++[(key,vz)]) ?_ ?_ ?_ ?_ ?_ ?_ ?_ a3
   ·simp only[Instr.mapUpdate,Sem.run_bind,run_underlying hT,MapKept.run_getObj_map hh,Result.andThen_ok,O.check _ _ F,a1,MapKept.run_setObj_map _ hh]
   ·simp[U]
   ·simp only[Array.toList_push,List.map_append,List.map_cons,List.map_nil];exact ac.append (VL.cons am VL.nil)
   ·intro p hp;rcases List.mem_append.1 hp with hp|hp
    ·exact W p hp
    ·simp only[List.mem_singleton] at hp;subst hp;exact F
   ·rw[List.map_append,List.nodup_append];refine⟨ae,by simp,λx hx y hy=>?_⟩;simp only[List.map_cons,List.map_nil,List.mem_singleton] at hy;subst hy;rintro rfl;exact aL hx
   ·intro e he;simp only[Array.toList_push,List.mem_append,List.mem_singleton] at he;rcases he with he|rfl
    ·have:=G e he;omega
    ·simp
   ·simp only[Array.toList_push];rw[List.pairwise_append];exact⟨aq,by simp,λe he e2 ax=>by simp only[List.mem_singleton] at ax;subst ax;exact G e he⟩
  ·have hj:E[j]?=some e':=by simpa using a2
   have ab:(E.modify j λe=>{ e with key:=key,val:=a.eval z }).toList=E.toList.set j { e' with key:=key,val:=a.eval z }:=by
    apply List.ext_getElem?;intro k;rw[Array.getElem?_toList,Array.getElem?_modify,List.getElem?_set];have ai:=(lGs a2).1;by_cases hk:j=k
    ·subst hk;rw[if_pos rfl,if_pos rfl,hj,if_pos ai];rfl
    ·rw[if_neg hk,if_neg hk,Array.getElem?_toList]
   refine az (E.modify j λe=>{ e with key:=key,val:=a.eval z }) J (es.set j (key,vz)) ?_ ?_ ?_ ?_ ?_ ?_ ?_ a6
   ·simp only[Instr.mapUpdate,Sem.run_bind,run_underlying hT,MapKept.run_getObj_map hh,Result.andThen_ok,O.check _ _ F,a1,hj,Option.map_some,Option.getD_some,a3,O.stays _ F,MapKept.run_setObj_map _ hh]
   ·rw[ab,List.map_set,List.map_set,U]
   ·rw[ab,List.map_set,List.map_set];exact ac.set j am
   ·intro p hp;rcases List.mem_or_eq_of_mem_set hp with hp|rfl
    ·exact W p hp
    ·exact F
   ·rw[List.map_set];have aw:(es.map (·.1))[j]?=some key:=by rw[List.getElem?_map,a4];rfl
    rw[show (es.map (·.1)).set j key=es.map (·.1) from by
     apply List.ext_getElem?;intro i;rw[List.getElem?_set];split
     ·rename_i aJ;subst aJ;rw[if_pos (lGs aw).1,aw]
     ·rfl]
    exact ae
   ·intro e he;rw[ab] at he;rcases List.mem_or_eq_of_mem_set he with he|rfl
    ·exact G e he
    ·exact G e' (lMg a2)
   ·have hp:(E.toList.map (·.born)).Pairwise (·<·):=List.pairwise_map.2 aq;have:((E.modify j λe=>{ e with key:=key,val:=a.eval z }).toList.map (·.born))=E.toList.map (·.born):=by
     rw[ab,List.map_set];apply List.ext_getElem?;intro k;rw[List.getElem?_set];by_cases hk:j=k
     ·subst hk;have ai:=(lGs a2).1;rw[if_pos rfl,if_pos (by simpa using ai),List.getElem?_map,a2];rfl
     ·rw[if_neg hk]
    rw[<- this] at hp;exact List.pairwise_map.1 hp
theorem xZr {T:TypeId}{x:Operand}(U:o.op=.range T x)
  (h:yQ8 (mapI C.P T) λ_=>yQ8 (evV C.gl fr x) λx=>mapV x λm=>xY0 m (finK o.dst K ad fr) X.st ds) :
  o.wpIn (yZo ro) n C.P a X.w (PK C X0 N K) Q:=by
 obtain⟨kz,hm,h1⟩:=yQ5.1 h;clear h;obtain⟨vx,hx,h2⟩:=yQ5.1 h1;clear h1;obtain⟨m,rfl,O⟩:=zJz h2;clear h2;have G:∀c,o.op≠.defer c:=by rw[U];intro c hc;cases hc
 obtain⟨W,e,hT,_,_⟩:=xQb hm;have ex:=V.raw_inv (hA.v hx).1;cases m with
 | none=>exact O.elim
 | some b =>
  obtain⟨ob,F,h1⟩:=yQ5.1 O;clear O;obtain⟨E,A,rfl,h⟩:=xVc h1;clear h1;obtain⟨hL,hh⟩:=hA.inv.good.ok b _ F;have D:X.st X.w.heap.size=none:=by
   cases hs:X.st X.w.heap.size with
   | none=>rfl
   | some o=>have:=hA.inv.good.lt hs;omega
  have hr:(execOp a.eval o).run C.P X.w=.ok (.value (.pointer (some ⟨X.w.heap.size,0,none⟩))) (X.w.alloc (.mapIter (some b) A #[] A)):=by
   unfold execOp;rw[U];simp only[ex,run_range_map X.w T W e b E A hT hh,Sem.run_bind,Result.andThen_ok,Sem.run_pure]
  have J:=hA.inv.new (.mapIter (some b) A #[] A) 0 (some (.iter b A #[] A)) (λi hi=>by
   cases hi;exact⟨by simp[WS.new],yQr _ _⟩)
  exact yQh hr G (yXi (dst:=o.dst) (K:=K) (x:=.raw (.pointer (some ⟨X.w.heap.size,0,none⟩))) J hA.ad hA.hd (.raw _ trivial) (h X.w.heap.size D))
theorem xUe {x:Operand}(ho:o.op=.next x false)
  (h:yQ8 (evV C.gl fr x) λx=>adrV x λr=>wWy r (finK o.dst K ad fr) X.st ds) :
  o.wpIn (yZo ro) n C.P a X.w (PK C X0 N K) Q:=by
 obtain⟨vx,hx,h2⟩:=yQ5.1 h;clear h;obtain⟨r,rfl,h3⟩:=xGu h2;clear h2;obtain⟨ob,ac,h1⟩:=yQ5.1 h3;clear h3;obtain⟨m,A,seen,c0,rfl,h2⟩:=wJp h1;clear h1;obtain⟨om,an,h1⟩:=yQ5.1 h2;clear h2;obtain⟨G,D,rfl,⟨O,am⟩,W,U⟩:=xVc h1;clear h1;have ae:∀c,o.op≠.defer c:=by rw[ho];intro c hc;cases hc
 have ex:=V.raw_inv (hA.v hx).1;obtain⟨hL,hr⟩:=hA.inv.good.ok r _ ac;obtain⟨_,hb⟩:=hA.inv.good.ok m _ an;have F:wYc G seen=(leftOf G seen).toList:=by simp[wYc,leftOf]
 rcases run_next_at (P:=C.P) X.w o.type r m A c0 seen G D hr hb (λe he=>(O e he).1) am with⟨h0,J⟩|⟨e,he,w1,aa,J⟩
 ·have E:(execOp a.eval o).run C.P X.w=.ok (.value (.tuple #[.bool false])) X.w:=by
   unfold execOp;rw[ho];simp only[ex,J,Sem.run_bind,Result.andThen_ok,Sem.run_pure]
  exact yQh E ae (hA.val (VL.cons (.raw (.bool false) trivial) VL.nil).tup (W (by rw[F];exact List.eq_nil_of_length_eq_zero (by simpa using h0))))
 ·have E:(execOp a.eval o).run C.P X.w=.ok (.value (.tuple #[.bool true,e.key,e.val])) (ChangeMaps.setBlock w1 r (.mapIter (some m) A (seen.push e.born) D)):=by
   unfold execOp;rw[ho];simp only[ex,J,Sem.run_bind,Result.andThen_ok,Sem.run_pure]
  have af:e∈G.toList:=by
   rw[<- F] at he;exact (List.mem_filter.1 he).1
  obtain⟨k,hk⟩:=Option.isSome_iff_exists.1 (O e af).2;have hc:=U e (by rw[F];exact he) k hk;have aj:∀Y:WS,Y.w=w1->Y.st=X.st->Inv C X0 N Y fr ds a->Y.L=X.L->o.wpIn (yZo ro) n C.P a X.w (PK C X0 N K) Q:=by
   intro Y ah ai hI aq;have ab:Y.w.heap[r]?=some (.mapIter (some m) A seen c0):=by
    rw[ah];rcases aa with rfl|rfl<;>exact hr
   have au:=hI.obj (o':=.mapIter (some m) A (seen.push e.born) D) (so:=some (.iter m A (seen.push e.born) D)) ab (vVb _ _ _ _) (vVb _ _ _ _) (by rw[ai,ac];simp) (λi hi=>by
    cases hi;exact⟨by show Y.L r=0;rw[aq];exact hL,yWo ab⟩)
   refine yQh E ae ?_;have al:(Y.obj r (.mapIter (some m) A (seen.push e.born) D) (some (.iter m A (seen.push e.born) D))).w=ChangeMaps.setBlock w1 r (.mapIter (some m) A (seen.push e.born) D):=by
    rw[<- ah];rfl
   have hf:=yXi (dst:=o.dst) (K:=K) (x:=.tup [.raw (.bool true),k,.junk]) (v:=.tuple #[.bool true,e.key,e.val]) au hA.ad hA.hd (VL.cons (.raw (.bool true) trivial) (VL.cons (wUg hk _ _ _) (VL.cons (.junk _) VL.nil))).tup (by
    have:(Y.obj r (.mapIter (some m) A (seen.push e.born) D) (some (.iter m A (seen.push e.born) D))).st=X.st.put r (some (.iter m A (seen.push e.born) D)):=by
     rw[<- ai];rfl
    rw[this];exact hc)
   rw[al] at hf;exact hf
  rcases aa with rfl|rfl
  ·exact aj X rfl rfl hA.inv rfl
  ·exact aj X.drew rfl rfl (hA.inv.ext' hA.inv.good.drew.1 hA.inv.good.drew.2) rfl
theorem xKp {x:Operand}(ho:o.op=.entry x)
  (h:yQ8 (evV C.gl fr x) λx=>adrV x λr=>xGn r (finK o.dst K ad fr) X.st ds) :
  o.wpIn (yZo ro) n C.P a X.w (PK C X0 N K) Q:=by
 obtain⟨vx,hx,h2⟩:=yQ5.1 h;clear h;obtain⟨r,rfl,h3⟩:=xGu h2;clear h2;obtain⟨ob,aa,h1⟩:=yQ5.1 h3;clear h3;obtain⟨m,D,seen,c0,rfl,h2⟩:=wJp h1;clear h1;obtain⟨om,W,h1⟩:=yQ5.1 h2;clear h2;obtain⟨U,ah,rfl,⟨rfl,A⟩,h⟩:=xVc h1;clear h1;obtain⟨k,hk,O⟩:=yQ5.1 h;have ab:∀c,o.op≠.defer c:=by rw[ho];intro c hc;cases hc
 have ex:=V.raw_inv (hA.v hx).1;obtain⟨hL,hr⟩:=hA.inv.good.ok r _ aa;obtain⟨_,hb⟩:=hA.inv.good.ok m _ W;unfold vVk at hk;obtain⟨b,G,ae⟩:=Option.bind_eq_some_iff.1 hk;obtain⟨e,he,ac⟩:=Option.bind_eq_some_iff.1 ae;have af:=List.mem_of_find?_eq_some he;have ag:e.born=b:=by simpa using List.find?_some he
 obtain⟨E,F⟩:∃s:Array Nat,seen=s.push e.born:=by
  refine⟨seen.pop,?_⟩;rw[ag];have aq:seen.size≠0:=λh0=>by
   rw[Array.eq_empty_of_size_eq_zero h0] at G;cases G
  apply Array.ext_getElem?;intro i;rw[Array.getElem?_push,Array.size_pop];split
  ·rename_i hi;subst hi;rw[<- G,Array.back?_eq_getElem?]
  ·rename_i hi;rw[Array.getElem?_pop];split
   ·rfl
   ·rw[Array.getElem?_eq_none];omega
 subst F;have J:(execOp a.eval o).run C.P X.w=.ok (.value (.tuple #[e.key,e.val])) X.w:=by
  unfold execOp;rw[ho];simp only[ex,run_entry_at X.w r m D E U c0 e hr hb af A,Sem.run_bind,Result.andThen_ok,Sem.run_pure]
 exact yQh J ab (hA.val (VL.cons (wUg ac _ _ _) (VL.cons (.junk _) VL.nil)).tup O)
end
