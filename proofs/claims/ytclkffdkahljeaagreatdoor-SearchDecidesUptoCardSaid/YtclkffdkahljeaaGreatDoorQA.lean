/- Proofs by moves, on lists of formulas ta -/
import Derived.Lib.Bytealg
import Derived.Test.YtclkffdkahljeaaGreatDoorKB
set_option linter.all false
open Nat renaming reduceEqDiff → zE,reduceBEq → zB,reduceAdd → zA,reduceMul → zM,reduceLeDiff → zL
namespace Go.Proofs.Tryz
open Go Go.Iv
abbrev noN:ByteArray:=⟨#[]⟩
abbrev imF (a b:Fm):Fm:=.mk 6 noN [] [a,b]
inductive PF:Fm->Prop
 | atom (n:ByteArray):PF (.mk 1 n [] [])
 | fls:PF (.mk 2 noN [] [])
 | neg {a:Fm} (h:PF a):PF (.mk 3 noN [] [a])
 | bin {o:Nat} {a b:Fm} (h4:4<=o) (h7:o<=7) (ha:PF a) (hb:PF b):PF (.mk o noN [] [a,b])
def addF (j:Bool):Fm->Bool->List (Nat×List (List Fm×List Fm))
 | .mk 3 _ _ [a],true=>[(4,[([a],[])])]
 | .mk 3 _ _ [a],false=>[(3,[([],[a])])]
 | .mk 4 _ _ [a,b],true=>[(6,[([],[a]),([],[b])])]
 | .mk 4 _ _ [a,b],false=>[(5,[([a,b],[])])]
 | .mk 5 _ _ [a,b],true=>if j=true then [(8,[([],[a])]),(18,[([],[b])])] else [(8,[([],[a,b])])]
 | .mk 5 _ _ [a,b],false=>[(7,[([a],[]),([b],[])])]
 | .mk 6 _ _ [a,b],true=>[(10,[([a],[b])])]
 | .mk 6 _ _ [a,b],false=>[(9,[([],[a]),([b],[])])]
 | .mk 7 _ _ [a,b],true=>[(12,[([a],[b]),([b],[a])])]
 | .mk 7 _ _ [a,b],false=>[(11,[([imF a b,imF b a],[])])]
 | _,_=>[]
def rgt (j:Bool)(R r:List Fm):List Fm:=if j=true/\r≠[] then r else R++r
def zX7 (f:Fm):Bool:=match f with|.mk o _ _ _=>decide (o=2)
def ClF (L R:List Fm):Prop:=(∃f∈L,f∈R)\/∃f∈L,zX7 f=true
def HtF (j:Bool):Nat->List Fm->List Fm->Prop
 | 0,_,_=>False
 | n+1,L,R=>ClF L R\/∃f r,f∈(if r=true then R else L)/\∃t∈addF j f r,∀p∈t.2,HtF j n (L++p.1) (rgt j R p.2)
theorem wVl {j:Bool}{R R' r:List Fm}(h:∀f∈R,f∈R'):∀f∈rgt j R r,f∈rgt j R' r:=by
 unfold rgt;split
 ·exact λ_ h=>h
 ·intro f hf;rcases List.mem_append.1 hf with h1|h1
  ·exact List.mem_append_left _ (h f h1)
  ·exact List.mem_append_right _ h1
theorem wY8 {L L' l:List Fm}(h:∀f∈L,f∈L'):∀f∈L++l,f∈L'++l:=λf hf=>by
 rcases List.mem_append.1 hf with h1|h1
 ·exact List.mem_append_left _ (h f h1)
 ·exact List.mem_append_right _ h1
theorem HtF.sub {j:Bool}:∀ {n:Nat} {L R L' R':List Fm},HtF j n L R->(∀f∈L,f∈L')->(∀f∈R,f∈R')->HtF j n L' R'
 | 0,_,_,_,_,h,_,_=>h.elim
 | n+1,L,R,L',R',h,hl,hr=>by
  rcases h with (⟨f,h1,h2⟩|⟨f,h1,h2⟩)|⟨f,r,h1,t,h2,h3⟩
  ·exact .inl (.inl ⟨f,hl f h1,hr f h2⟩)
  ·exact .inl (.inr ⟨f,hl f h1,h2⟩)
  ·refine .inr ⟨f,r,?_,t,h2,λp hp=>(h3 p hp).sub (wY8 hl) (wVl hr)⟩;cases r
   ·exact hl f h1
   ·exact hr f h1
theorem HtF.up {j:Bool}:∀ {n m:Nat} {L R:List Fm},HtF j n L R->n<=m->HtF j m L R
 | 0,_,_,_,h,_=>h.elim
 | n+1,0,_,_,_,hm=>absurd hm (by omega)
 | n+1,m+1,L,R,h,hm=>by
  rcases h with h|⟨f,r,h1,t,h2,h3⟩
  ·exact .inl h
  ·exact .inr ⟨f,r,h1,t,h2,λp hp=>(h3 p hp).up (by omega)⟩
mutual
def hp (S:Nat->List Nat)(v:Nat->ByteArray->Bool):Fm->Nat->Bool
 | .mk op n _ sub,w =>
  if op=1 then v w n
  else if op=4 then (hpL S v sub w).all id
  else if op=5 then (hpL S v sub w).any id
  else if op=3\/op=6\/op=7 then (S w).all λu=>match hpL S v sub u with
   | [a]=>!a
   | [a,b]=>(!a || b)&&(decide (op=6) || (!b || a))
   | _=>true
  else false
def hpL (S:Nat->List Nat)(v:Nat->ByteArray->Bool):List Fm->Nat->List Bool
 | [],_=>[]
 | a::l,w=>hp S v a w::hpL S v l w
end
section
variable (S:Nat->List Nat)(v:Nat->ByteArray->Bool)(w:Nat)(a b:Fm)(n:ByteArray)(us:List Tm)
theorem hp1:hp S v (.mk 1 n us []) w=v w n:=by simp[hp]
theorem hp2:hp S v (.mk 2 n us []) w=false:=by simp[hp]
theorem hp3:hp S v (.mk 3 n us [a]) w=(S w).all λu=>!hp S v a u:=by simp[hp,hpL]
theorem hp4:hp S v (.mk 4 n us [a,b]) w=(hp S v a w&&hp S v b w):=by simp[hp,hpL]
theorem hp5:hp S v (.mk 5 n us [a,b]) w=(hp S v a w || hp S v b w):=by simp[hp,hpL]
theorem hp6:hp S v (.mk 6 n us [a,b]) w=(S w).all λu=>!hp S v a u || hp S v b u:=by simp[hp,hpL]
theorem hp7:hp S v (.mk 7 n us [a,b]) w=(S w).all λu=>(!hp S v a u || hp S v b u)&&(!hp S v b u || hp S v a u):=by simp[hp,hpL]
end
structure Frc (S:Nat->List Nat)(v:Nat->ByteArray->Bool):Prop where
 refl:∀w,w∈S w
 trans:∀w,∀u∈S w,∀x∈S u,x∈S w
 stay:∀w,∀u∈S w,∀n,v w n=true->v u n=true
theorem wWd {S:Nat->List Nat}{v:Nat->ByteArray->Bool}(h:Frc S v){f:Fm}(hf:PF f):∀w,∀u∈S w,hp S v f w=true->hp S v f u=true:=by
 induction hf with
 | atom n=>intro w u hu;rw[hp1,hp1];exact h.stay w u hu n
 | fls=>intro w u hu;rw[hp2];simp
 | neg _ _ =>
  intro w u hu;rw[hp3,hp3,List.all_eq_true,List.all_eq_true];exact λh1 x hx=>h1 x (h.trans w u hu x hx)
 | @bin o a b h4 h7 _ _ ia ib =>
  intro w u hu;obtain rfl|rfl|rfl|rfl:o=4\/o=5\/o=6\/o=7:=by omega
  ·rw[hp4,hp4,bAt,bAt];exact λ⟨h1,h2⟩=>⟨ia w u hu h1,ib w u hu h2⟩
  ·rw[hp5,hp5,Bool.or_eq_true,Bool.or_eq_true];exact λh1=>h1.imp (ia w u hu) (ib w u hu)
  ·rw[hp6,hp6,List.all_eq_true,List.all_eq_true];exact λh1 x hx=>h1 x (h.trans w u hu x hx)
  ·rw[hp7,hp7,List.all_eq_true,List.all_eq_true];exact λh1 x hx=>h1 x (h.trans w u hu x hx)
theorem PF.add {j:Bool}{f:Fm}(h:PF f){r:Bool}{t:Nat×List (List Fm×List Fm)}(ht:t∈addF j f r):∀p∈t.2,(∀g∈p.1,PF g)/\∀g∈p.2,PF g:=by
 cases h with
 | atom n=>simp[addF] at ht
 | fls=>simp[addF] at ht
 | neg ha=>cases r<;>simp[addF] at ht<;>subst ht<;>simp[ha]
 | @bin o a b h4 h7 ha hb =>
  have h1:PF (imF a b):=.bin (by omega) (by omega) ha hb;have h2:PF (imF b a):=.bin (by omega) (by omega) hb ha;obtain rfl|rfl|rfl|rfl:o=4\/o=5\/o=6\/o=7:=by omega
  all_goals cases r<;>cases j<;>simp[addF] at ht
  all_goals first|(subst ht;simp[ha,hb,h1,h2])|(rcases ht with rfl|rfl<;>simp[ha,hb])
theorem HtF.forced {S:Nat->List Nat}{v:Nat->ByteArray->Bool}(h:Frc S v):∀ {n:Nat} {L R:List Fm},HtF true n L R->(∀f∈L,PF f)->(∀f∈R,PF f)->(∀f∈R,∀g∈R,f=g)->∀w,(∀f∈L,hp S v f w=true)->∃f∈R,hp S v f w=true
 | 0,_,_,h,_,_,_,_,_=>h.elim
 | n+1,L,R,hh,hL,hR,hR1,w,hw=>by
  rcases hh with (⟨f,h1,h2⟩|⟨f,h1,h2⟩)|⟨f,r,h1,t,h2,h3⟩
  ·exact⟨f,h2,hw f h1⟩
  ·have:=hw f h1;cases hL f h1 with
   | fls=>rw[hp2] at this;cases this
   | bin h4 h7 _ _=>simp[zX7] at h2;omega
   | _=>simp[zX7] at h2
  ·have hPf:PF f:=by
    cases r
    ·exact hL f h1
    ·exact hR f h1
   have ih:∀p∈t.2,(∀f∈p.2,∀g∈p.2,f=g)->∀u∈S w,(∀g∈p.1,hp S v g u=true)->∃g∈(if p.2=[] then R else p.2),hp S v g u=true:=λp hp' hp1 u hu hg=>by
    have hrg:rgt true R p.2=if p.2=[] then R else p.2:=by
     unfold rgt;by_cases h:p.2=[]
     ·simp[h]
     ·simp[h]
    rw[<- hrg];refine (h3 p hp').forced h (λg hg=>?_) (λg hg=>?_) ?_ u λg hg'=>?_
    ·rcases List.mem_append.1 hg with h|h
     ·exact hL g h
     ·exact (hPf.add h2 p hp').1 g h
    ·rw[hrg] at hg;split at hg
     ·exact hR g hg
     ·exact (hPf.add h2 p hp').2 g hg
    ·rw[hrg];split
     ·exact hR1
     ·exact hp1
    ·rcases List.mem_append.1 hg' with h'|h'
     ·exact wWd h (hL g h') w u hu (hw g h')
     ·exact hg g h'
   have hrf:=h.refl w;have one:∀ {x:Fm} {u:Nat},(∃g∈(if [x]=[] then R else [x]),hp S v g u=true)->hp S v x u=true:=λ⟨g,hg,hg'⟩=>by
    simp at hg;subst hg;exact hg'
   have al:∀ {p:Nat->Bool},(S w).all p=true->p w=true:=λh=>List.all_eq_true.1 h w hrf;have mem:r=true->∀g∈R,g=f:=λhr g hg=>hR1 g hg f (by rw[hr] at h1;exact h1);cases hPf with
   | atom n=>simp[addF] at h2
   | fls=>simp[addF] at h2
   | @neg a ha =>
    cases r
    ·simp[addF] at h2;subst h2;have h5:=one (ih _ (.head _) (by simp) w hrf (by simp));have:=hw _ h1;rw[hp3] at this;have:=al this;rw[h5] at this;cases this
    ·simp[addF] at h2;subst h2;refine⟨_,h1,?_⟩;rw[hp3,List.all_eq_true];intro u hu;cases hau:hp S v a u with
     | false=>rfl
     | true =>
      obtain⟨g,hg,hg'⟩:=ih _ (.head _) (by simp) u hu (by simpa using hau);rw[mem rfl g hg,hp3,List.all_eq_true] at hg';have:=hg' u (h.refl u);rw[hau] at this;cases this
   | @bin o a b h4 h7 ha hb =>
    obtain rfl|rfl|rfl|rfl:o=4\/o=5\/o=6\/o=7:=by omega
    ·cases r
     ·simp[addF] at h2;subst h2;have:=hw _ h1;rw[hp4,bAt] at this;exact ih _ (.head _) (by simp) w hrf (by simpa using this)
     ·simp[addF] at h2;subst h2;exact⟨_,h1,by rw[hp4,one (ih _ (.head _) (by simp) w hrf (by simp)),one (ih _ (.tail _ (.head _)) (by simp) w hrf (by simp))];rfl⟩
    ·cases r
     ·simp[addF] at h2;subst h2;have:=hw _ h1;rw[hp5,Bool.or_eq_true] at this;rcases this with h5|h5
      ·exact ih _ (.head _) (by simp) w hrf (by simpa using h5)
      ·exact ih _ (.tail _ (.head _)) (by simp) w hrf (by simpa using h5)
     ·simp[addF] at h2;refine⟨_,h1,?_⟩;rw[hp5];rcases h2 with rfl|rfl
      ·rw[one (ih _ (.head _) (by simp) w hrf (by simp))];rfl
      ·rw[one (ih _ (.head _) (by simp) w hrf (by simp)),Bool.or_true]
    ·cases r
     ·simp[addF] at h2;subst h2;have h5:=one (ih _ (.head _) (by simp) w hrf (by simp));have:=hw _ h1;rw[hp6] at this;have:=al this;rw[h5] at this;exact ih _ (.tail _ (.head _)) (by simp) w hrf (by simpa using this)
     ·simp[addF] at h2;subst h2;refine⟨_,h1,?_⟩;rw[hp6,List.all_eq_true];intro u hu;cases hau:hp S v a u with
      | false=>rfl
      | true=>rw[one (ih _ (.head _) (by simp) u hu (by simpa using hau))];rfl
    ·cases r
     ·simp[addF] at h2;subst h2;have:=hw _ h1;rw[hp7,List.all_eq_true] at this;refine ih _ (.head _) (by simp) w hrf λg hg=>?_;simp at hg;rcases hg with rfl|rfl
      ·rw[hp6,List.all_eq_true];exact λx hx=>(bAt _ _▸this x hx).1
      ·rw[hp6,List.all_eq_true];exact λx hx=>(bAt _ _▸this x hx).2
     ·simp[addF] at h2;subst h2;refine⟨_,h1,?_⟩;rw[hp7,List.all_eq_true];intro u hu;have h5:hp S v a u=true->hp S v b u=true:=λh=>one (ih _ (.head _) (by simp) u hu (by simpa using h));have h6:hp S v b u=true->hp S v a u=true:=λh=>one (ih _ (.tail _ (.head _)) (by simp) u hu (by simpa using h));cases hau:hp S v a u<;>cases hbu:hp S v b u<;>simp_all
end Go.Proofs.Tryz
namespace Go.Proofs.Tryz
open Go Go.Iv
def UnP (j:Bool)(L R:List Fm):Prop:=∀n,¬ HtF j n L R
theorem wKq {j:Bool}{q:(List Fm×List Fm)->List Fm×List Fm}:∀ {l:List (List Fm×List Fm)},(∀p∈l,∃n,HtF j n (q p).1 (q p).2)->∃n,∀p∈l,HtF j n (q p).1 (q p).2
 | [],_=>⟨0,λ_ h=>by cases h⟩
 | p::l,h=>by
  obtain⟨n,hn⟩:=h p (.head _);obtain⟨m,hm⟩:=wKq λp hp=>h p (.tail _ hp);refine⟨max n m,λx hx=>?_⟩;rcases List.mem_cons.1 hx with rfl|hx
  ·exact hn.up (Nat.le_max_left _ _)
  ·exact (hm x hx).up (Nat.le_max_right _ _)
theorem UnP.step {j:Bool}{L R:List Fm}(h:UnP j L R){f:Fm}{r:Bool}(hf:f∈(if r=true then R else L)){t:Nat×List (List Fm×List Fm)}(ht:t∈addF j f r):∃p∈t.2,UnP j (L++p.1) (rgt j R p.2):=by
 refine Classical.byContradiction λhno=>?_;have hall:∀p∈t.2,∃n,HtF j n (L++p.1) (rgt j R p.2):=λp hp=>Classical.byContradiction λhn=>hno ⟨p,hp,λn hh=>hn ⟨n,hh⟩⟩;obtain⟨n,hn⟩:=wKq (q:=λp=>(L++p.1,rgt j R p.2)) hall;exact h (n+1) (.inr ⟨f,r,hf,t,ht,hn⟩)
theorem UnP.open_ {j:Bool}{L R:List Fm}(h:UnP j L R):¬ ClF L R:=λhc=>h 1 (.inl hc)
def Full (U:List Fm):Prop:=∀f∈U,∀j r,∀t∈addF j f r,∀p∈t.2,(∀g∈p.1,g∈U)/\∀g∈p.2,g∈U
open Classical in
noncomputable def lack (U L:List Fm):Nat:=(U.filter λf=>!decide (f∈L)).length
open Classical in
theorem xQk {U L L':List Fm}(h:∀f∈L,f∈L'):lack U L'<=lack U L:=by
 unfold lack
 induction U with
 | nil=>exact Nat.le_refl _
 | cons a U ih =>
  simp only[List.filter_cons];by_cases h1:a∈L'
  ·by_cases h2:a∈L
   ·simpa[h1,h2] using ih
   ·simp[h1,h2];omega
  ·have h2:a ∉ L:=λh3=>h1 (h a h3);simp[h1,h2];exact ih
open Classical in
theorem xGh {U L L':List Fm}(h:∀f∈L,f∈L'){x:Fm}(hx:x∈U)(h1:x∈L')(h2:x ∉ L):lack U L'<lack U L:=by
 have key:=λV=>xQk (U:=V) h;unfold lack at *
 induction U with
 | nil=>cases hx
 | cons a U ih =>
  simp only[List.filter_cons];rcases List.mem_cons.1 hx with rfl|hx
  ·have:=key U;simp[h1,h2];omega
  ·have:=ih hx;by_cases h3:a∈L'
   ·by_cases h4:a∈L
    ·simpa[h3,h4] using this
    ·simp[h3,h4];omega
   ·have h4:a ∉ L:=λh5=>h3 (h a h5);simp[h3,h4];exact this
def one (_:Nat):List Nat:=[0]
abbrev tr (v:ByteArray->Bool)(f:Fm):Bool:=hp one (λ_=>v) f 0
section
variable (v:ByteArray->Bool)(a b:Fm)(n:ByteArray)(us:List Tm)
theorem tr1:tr v (.mk 1 n us [])=v n:=hp1 _ _ _ _ _
theorem tr2:tr v (.mk 2 n us [])=false:=hp2 _ _ _ _ _
theorem tr3:tr v (.mk 3 n us [a])=!tr v a:=by simp[tr,hp3,one]
theorem tr4:tr v (.mk 4 n us [a,b])=(tr v a&&tr v b):=hp4 _ _ _ _ _ _ _
theorem tr5:tr v (.mk 5 n us [a,b])=(tr v a || tr v b):=hp5 _ _ _ _ _ _ _
theorem tr6:tr v (.mk 6 n us [a,b])=(!tr v a || tr v b):=by simp[tr,hp6,one]
theorem tr7:tr v (.mk 7 n us [a,b])=((!tr v a || tr v b)&&(!tr v b || tr v a)):=by simp[tr,hp7,one]
end
theorem HtF.valid (v:ByteArray->Bool):∀ {n:Nat} {L R:List Fm},HtF false n L R->(∀f∈L,PF f)->(∀f∈R,PF f)->(∀f∈L,tr v f=true)->∃f∈R,tr v f=true
 | 0,_,_,h,_,_,_=>h.elim
 | n+1,L,R,hh,hL,hR,hw=>by
  rcases hh with (⟨f,h1,h2⟩|⟨f,h1,h2⟩)|⟨f,r,h1,t,h2,h3⟩
  ·exact⟨f,h2,hw f h1⟩
  ·have:=hw f h1;cases hL f h1 with
   | fls=>rw[tr2] at this;cases this
   | bin h4 h7 _ _=>simp[zX7] at h2;omega
   | _=>simp[zX7] at h2
  ·have hPf:PF f:=by
    cases r
    ·exact hL f h1
    ·exact hR f h1
   have ih:∀p∈t.2,(∀g∈p.1,tr v g=true)->(∃g∈R,tr v g=true)\/∃g∈p.2,tr v g=true:=λp hp' hg=>by
    have h4:=h3 p hp';simp only[rgt,bFt,false_and,if_false] at h4;obtain⟨g,hg1,hg2⟩:=h4.valid v (λg hg=>(List.mem_append.1 hg).elim (hL g) ((hPf.add h2 p hp').1 g)) (λg hg=>(List.mem_append.1 hg).elim (hR g) ((hPf.add h2 p hp').2 g)) λg hg'=>(List.mem_append.1 hg').elim (hw g) (hg g);rcases List.mem_append.1 hg1 with h|h
    ·exact .inl ⟨g,h,hg2⟩
    ·exact .inr ⟨g,h,hg2⟩
   refine Classical.byContradiction λhno=>?_;have ih':∀p∈t.2,(∀g∈p.1,tr v g=true)->∃g∈p.2,tr v g=true:=λp hp' hg=>(ih p hp' hg).resolve_left hno;have hfr:r=true->tr v f=false:=λhr=>by
    cases hx:tr v f with
    | false=>rfl
    | true=>exact (hno ⟨f,by rw[hr] at h1;exact h1,hx⟩).elim
   have hfl:r=false->tr v f=true:=λhr=>hw f (by rw[hr] at h1;exact h1);clear ih h3 h1 hno hw;cases hPf with
   | atom n=>simp[addF] at h2
   | fls=>simp[addF] at h2
   | @neg a ha=>cases r<;>simp[addF] at h2<;>subst h2<;>simp[tr3] at hfr hfl ih'<;>simp_all
   | @bin o a b h4 h7 ha hb =>
    obtain rfl|rfl|rfl|rfl:o=4\/o=5\/o=6\/o=7:=by omega
    all_goals cases r<;>simp[addF] at h2<;>subst h2<;>simp[tr4,tr5,tr6,tr7] at hfr hfl ih'<;>cases hA:tr v a<;>cases hB:tr v b<;>simp_all
theorem uZi {U L R:List Fm}(hn:UnP false L R)(hs:∀f r,f∈(if r=true then R else L)->∀t∈addF false f r,∃p∈t.2,(∀g∈p.1,g∈L)/\∀g∈p.2,g∈R){v:ByteArray->Bool}(hv:∀n,v n=true↔Fm.mk 1 n [] []∈L){f:Fm}(hf:PF f):(f∈L->tr v f=true)/\(f∈R->tr v f=false):=by
 have key:∀f r,f∈(if r=true then R else L)->∀t∈addF false f r,∃p∈t.2,(∀g∈p.1,g∈L)/\∀g∈p.2,g∈R:=hs
 induction hf with
 | atom n =>
  rw[tr1];refine⟨(hv n).2,λh=>?_⟩;cases hx:v n with
  | false=>rfl
  | true=>exact (hn.open_ (.inl ⟨_,(hv n).1 hx,h⟩)).elim
 | fls=>exact⟨λh=>(hn.open_ (.inr ⟨_,h,rfl⟩)).elim,λ_=>tr2 ..⟩
 | @neg a ha ih =>
  rw[tr3];refine⟨λh=>?_,λh=>?_⟩
  ·obtain⟨p,h1,h2,h3⟩:=key _ false h (3,[([],[a])]) (by simp[addF]);obtain rfl:=List.mem_singleton.1 h1;simp[ih.2 (h3 a (.head _))]
  ·obtain⟨p,h1,h2,h3⟩:=key _ true h (4,[([a],[])]) (by simp[addF]);obtain rfl:=List.mem_singleton.1 h1;simp[ih.1 (h2 a (.head _))]
 | @bin o a b h4 h7 ha hb ia ib =>
  obtain rfl|rfl|rfl|rfl:o=4\/o=5\/o=6\/o=7:=by omega
  ·rw[tr4];refine⟨λh=>?_,λh=>?_⟩
   ·obtain⟨p,h1,h2,h3⟩:=key _ false h (5,[([a,b],[])]) (by simp[addF]);obtain rfl:=List.mem_singleton.1 h1;simp[ia.1 (h2 a (.head _)),ib.1 (h2 b (.tail _ (.head _)))]
   ·obtain⟨p,h1,h2,h3⟩:=key _ true h (6,[([],[a]),([],[b])]) (by simp[addF]);simp only[List.mem_cons,List.not_mem_nil,or_false] at h1;rcases h1 with rfl|rfl
    ·simp[ia.2 (h3 a (.head _))]
    ·simp[ib.2 (h3 b (.head _))]
  ·rw[tr5];refine⟨λh=>?_,λh=>?_⟩
   ·obtain⟨p,h1,h2,h3⟩:=key _ false h (7,[([a],[]),([b],[])]) (by simp[addF]);simp only[List.mem_cons,List.not_mem_nil,or_false] at h1;rcases h1 with rfl|rfl
    ·simp[ia.1 (h2 a (.head _))]
    ·simp[ib.1 (h2 b (.head _))]
   ·obtain⟨p,h1,h2,h3⟩:=key _ true h (8,[([],[a,b])]) (by simp[addF]);obtain rfl:=List.mem_singleton.1 h1;simp[ia.2 (h3 a (.head _)),ib.2 (h3 b (.tail _ (.head _)))]
  ·rw[tr6];refine⟨λh=>?_,λh=>?_⟩
   ·obtain⟨p,h1,h2,h3⟩:=key _ false h (9,[([],[a]),([b],[])]) (by simp[addF]);simp only[List.mem_cons,List.not_mem_nil,or_false] at h1;rcases h1 with rfl|rfl
    ·simp[ia.2 (h3 a (.head _))]
    ·simp[ib.1 (h2 b (.head _))]
   ·obtain⟨p,h1,h2,h3⟩:=key _ true h (10,[([a],[b])]) (by simp[addF]);obtain rfl:=List.mem_singleton.1 h1;simp[ia.1 (h2 a (.head _)),ib.2 (h3 b (.head _))]
  ·rw[tr7];have im:∀x y,imF x y∈L->y∈L\/x∈R:=λx y h=>by
    obtain⟨p,h1,h2,h3⟩:=key _ false h (9,[([],[x]),([y],[])]) (by simp[addF]);simp only[List.mem_cons,List.not_mem_nil,or_false] at h1;rcases h1 with rfl|rfl
    ·exact .inr (h3 x (.head _))
    ·exact .inl (h2 y (.head _))
   refine⟨λh=>?_,λh=>?_⟩
   ·obtain⟨p,h1,h2,h3⟩:=key _ false h (11,[([imF a b,imF b a],[])]) (by simp[addF]);obtain rfl:=List.mem_singleton.1 h1;rcases im a b (h2 _ (.head _)) with h5|h5<;>rcases im b a (h2 _ (.tail _ (.head _))) with h6|h6
    ·simp[ib.1 h5,ia.1 h6]
    ·exact (hn.open_ (.inl ⟨b,h5,h6⟩)).elim
    ·exact (hn.open_ (.inl ⟨a,h6,h5⟩)).elim
    ·simp[ia.2 h5,ib.2 h6]
   ·obtain⟨p,h1,h2,h3⟩:=key _ true h (12,[([a],[b]),([b],[a])]) (by simp[addF]);simp only[List.mem_cons,List.not_mem_nil,or_false] at h1;rcases h1 with rfl|rfl
    ·simp[ia.1 (h2 a (.head _)),ib.2 (h3 b (.head _))]
    ·simp[ib.1 (h2 b (.head _)),ia.2 (h3 a (.head _))]
open Classical in
theorem UnP.refuted {U:List Fm}(hU:Full U)(hP:∀f∈U,PF f):∀(m:Nat) (L R:List Fm),(∀f∈L,f∈U)->(∀f∈R,f∈U)->UnP false L R->lack U L+lack U R<=m->∃v:ByteArray->Bool,(∀f∈L,tr v f=true)/\∀f∈R,tr v f=false
 | m,L,R,hL,hR,hn,hm=>by
  by_cases hs:∀f r,f∈(if r=true then R else L)->∀t∈addF false f r,∃p∈t.2,(∀g∈p.1,g∈L)/\∀g∈p.2,g∈R
  ·have hh:=λf (hf:PF f)=>uZi (U:=U) hn hs (v:=λn=>decide (Fm.mk 1 n [] []∈L)) (λn=>by simp) hf;exact⟨_,λf hf=>(hh f (hP f (hL f hf))).1 hf,λf hf=>(hh f (hP f (hR f hf))).2 hf⟩
  ·obtain⟨f,hs⟩:=Classical.not_forall.1 hs;obtain⟨r,hs⟩:=Classical.not_forall.1 hs;obtain⟨h1,hs⟩:=Classical.not_forall.1 hs;obtain⟨t,hs⟩:=Classical.not_forall.1 hs;obtain⟨h2,hs⟩:=Classical.not_forall.1 hs;obtain⟨p,h3,h4⟩:=hn.step h1 h2;simp only[rgt,bFt,false_and,if_false] at h4;have hfU:f∈U:=by
    cases r
    ·exact hL f h1
    ·exact hR f h1
   obtain⟨u1,u2⟩:=hU f hfU false r t h2 p h3;have hl:∀f∈L,f∈L++p.1:=λf hf=>List.mem_append_left _ hf;have hr:∀f∈R,f∈R++p.2:=λf hf=>List.mem_append_left _ hf;have hlt:lack U (L++p.1)+lack U (R++p.2)<lack U L+lack U R:=by
    by_cases h5:∀g∈p.1,g∈L
    ·have h6:¬ ∀g∈p.2,g∈R:=λh6=>hs ⟨p,h3,h5,h6⟩;obtain⟨g,h6⟩:=Classical.not_forall.1 h6;obtain⟨h7,h8⟩:=Classical.not_forall.1 h6;have:=xGh hr (u2 g h7) (List.mem_append_right _ h7) h8;have:=xQk (U:=U) hl;omega
    ·obtain⟨g,h6⟩:=Classical.not_forall.1 h5;obtain⟨h7,h8⟩:=Classical.not_forall.1 h6;have:=xGh hl (u1 g h7) (List.mem_append_right _ h7) h8;have:=xQk (U:=U) hr;omega
   obtain⟨v,h5,h6⟩:=UnP.refuted hU hP (m-1) (L++p.1) (R++p.2) (λg hg=>(List.mem_append.1 hg).elim (hL g) (u1 g)) (λg hg=>(List.mem_append.1 hg).elim (hR g) (u2 g)) h4 (by omega);exact⟨v,λf hf=>h5 f (hl f hf),λf hf=>h6 f (hr f hf)⟩
termination_by m=>m
decreasing_by omega
end Go.Proofs.Tryz
namespace Go.Proofs.Tryz
open Go Go.Iv
def cmpN (a b:Nat):Int:=if a<b then -1 else if b<a then 1 else 0
noncomputable def cmpB (a b:ByteArray):Int:=if Op.bytesLess a.data.toList b.data.toList=true then -1 else if Op.bytesLess b.data.toList a.data.toList=true then 1 else 0
def lexI (x y:Int):Int:=if x=0 then y else x
mutual
noncomputable def yV6:Tm->Tm->Int
 | .mk v n us,.mk v' n' us'=>if v=v' then lexI (cmpB n n') (lexI (cmpN us.length us'.length) (yJ8 us us')) else if v=true then -1 else 1
noncomputable def yJ8:List Tm->List Tm->Int
 | a::l,b::m=>lexI (yV6 a b) (yJ8 l m)
 | _,_=>0
end
mutual
noncomputable def yZa:Fm->Fm->Int
 | .mk o n us sub,.mk o' n' us' sub'=>lexI (cmpN o o') (lexI (cmpB n n') (lexI (lexI (cmpN us.length us'.length) (yJ8 us us')) (lexI (cmpN sub.length sub'.length) (yWl sub sub'))))
noncomputable def yWl:List Fm->List Fm->Int
 | a::l,b::m=>lexI (yZa a b) (yWl l m)
 | _,_=>0
end
structure Cp {α:Type}(f:α->α->Int)(a:α):Prop where
 eq:∀b,f a b=0↔a=b
 neg:∀b,f b a = - f a b
 tr:∀b c,f a b<0->f b c<0->f a c<0
theorem yK5 {x y:Int}:lexI x y=0↔x=0/\y=0:=by
 unfold lexI;split
 ·rename_i h;simp[h]
 ·rename_i h;simp[h]
theorem yVk (x y:Int):lexI (-x) (-y) = - lexI x y:=by
 unfold lexI;grind
theorem zVw {x y:Int}:lexI x y<0↔x<0\/x=0/\y<0:=by
 unfold lexI;split
 ·rename_i h;simp[h]
 ·rename_i h;simp[h]
theorem zKe {p q r p' q' r':Int}(h1:p<0->q<0->r<0)(h2:p=0->q=r)(h3:q=0->p=r)(h4:p'<0->q'<0->r'<0)(h:lexI p p'<0)(k:lexI q q'<0):lexI r r'<0:=by
 rw[zVw] at *;grind
theorem yWk (a:Nat):Cp cmpN a:=by
 refine⟨λb=>?_,λb=>?_,λb c=>?_⟩<;>unfold cmpN<;>repeat' split
 all_goals grind
open Classical in
theorem zQ0 {a b:ByteArray}:cmpB a b=if ltN a b then -1 else if ltN b a then 1 else 0:=by
 unfold cmpB;congr 1
 ·exact propext xXn
 ·congr 1;exact propext xXn
open Classical in
theorem yXu (a:ByteArray):Cp cmpB a:=by
 refine⟨λb=>?_,λb=>?_,λb c=>?_⟩
 ·rw[zQ0];by_cases h1:ltN a b
  ·rw[if_pos h1];exact⟨λh=>by omega,λh=>absurd h1 (by rw[h];exact wW3 b)⟩
  ·rw[if_neg h1];by_cases h2:ltN b a
   ·grind
   ·rw[if_neg h2];exact⟨λ_=>Classical.byContradiction λhne=>h2 (xYz h1 hne),λ_=>rfl⟩
 ·rw[zQ0,zQ0];by_cases h1:ltN a b
  ·rw[if_pos h1,if_neg (xG0 h1),if_pos h1];rfl
  ·grind
 ·rw[zQ0,zQ0,zQ0];have key:∀x y:ByteArray,(if ltN x y then (-1:Int) else if ltN y x then 1 else 0)<0↔ltN x y:=λx y=>by
   grind
  rw[key,key,key];exact xYy
section
variable {α:Type}{f:α->α->Int}{g:List α->List α->Int}(g0:g [] []=0)(g1:∀a b l m,g (a::l) (b::m)=lexI (f a b) (g l m))
include g0 g1
theorem xQe:∀(l:List α),(∀a∈l,∀b,f a b=0↔a=b)->∀m,l.length=m.length->(g l m=0↔l=m)
 | [],_,m,hm=>by
  grind
 | a::l,hc,b::m,hm=>by
  rw[g1,yK5,hc a (by simp),xQe l (λb hb=>hc b (by simp[hb])) m (by simpa using hm),List.cons.injEq]
theorem xXj:∀(l:List α),(∀a∈l,∀b,f b a = - f a b)->∀m,l.length=m.length->g m l = - g l m
 | [],_,m,hm=>by
  grind
 | a::l,hc,b::m,hm=>by
  rw[g1,g1,hc a (by simp),xXj l (λb hb=>hc b (by simp[hb])) m (by simpa using hm),yVk]
theorem xG6 (he:∀a b,f a b=0↔a=b):∀(l:List α),(∀a∈l,∀b c,f a b<0->f b c<0->f a c<0)->∀m n,l.length=m.length->m.length=n.length->g l m<0->g m n<0->g l n<0
 | [],_,m,n,hm,hn,h,_=>by
  grind
 | a::l,hc,b::m,c::n,hm,hn,h,k=>by
  rw[g1] at h k ⊢;exact zKe (hc a (by simp) b c) (λe=>by rw[(he a b).1 e]) (λe=>by rw[(he b c).1 e]) (xG6 he l (λb hb=>hc b (by simp[hb])) m n (by simpa using hm) (by simpa using hn)) h k
end
def lenL {α:Type}(g:List α->List α->Int)(l m:List α):Int:=lexI (cmpN l.length m.length) (g l m)
theorem yZy {a b:Nat}:cmpN a b=0↔a=b:=(yWk a).eq b
section
variable {α:Type}{f:α->α->Int}{g:List α->List α->Int}(g0:g [] []=0)(g1:∀a b l m,g (a::l) (b::m)=lexI (f a b) (g l m))
include g0 g1
theorem zX3 {l:List α}(h:∀a∈l,∀b,f a b=0↔a=b)(m:List α):lenL g l m=0↔l=m:=by
 unfold lenL;rw[yK5,yZy];constructor
 ·rintro⟨h1,h2⟩;exact (xQe g0 g1 l h m h1).1 h2
 ·rintro rfl;exact⟨rfl,(xQe g0 g1 l h l rfl).2 rfl⟩
theorem zVy {l:List α}(h:∀a∈l,∀b,f b a = - f a b)(m:List α):lenL g m l = - lenL g l m:=by
 unfold lenL;rw[(yWk l.length).neg];by_cases hl:l.length=m.length
 ·rw[xXj g0 g1 l h m hl,yVk]
 ·have:¬ cmpN l.length m.length=0:=λh=>hl (yZy.1 h);unfold lexI;grind
theorem xQh (he:∀a b,f a b=0↔a=b){l:List α}(h:∀a∈l,∀b c,f a b<0->f b c<0->f a c<0)(m n:List α)(h1:lenL g l m<0)(h2:lenL g m n<0):lenL g l n<0:=by
 unfold lenL at *;rw[zVw] at h1 h2;by_cases hl:l.length=m.length/\m.length=n.length
 ·obtain⟨hl,hm⟩:=hl;have e1:¬ cmpN l.length m.length<0:=by rw[yZy.2 hl];omega
  have e2:¬ cmpN m.length n.length<0:=by rw[yZy.2 hm];omega
  have e3:cmpN l.length n.length=0:=yZy.2 (hl.trans hm);rw[zVw];exact .inr ⟨e3,xG6 g0 g1 he l h m n hl hm (h1.resolve_left e1).2 (h2.resolve_left e2).2⟩
 ·rw[zVw];left;rcases h1 with h1|⟨h1,_⟩
  ·rcases h2 with h2|⟨h2,_⟩
   ·exact (yWk _).tr _ _ h1 h2
   ·rw[<- yZy.1 h2];exact h1
  ·rcases h2 with h2|⟨h2,_⟩
   ·rw[yZy.1 h1];exact h2
   ·exact absurd ⟨yZy.1 h1,yZy.1 h2⟩ hl
end
theorem yJp:yJ8 [] []=0:=by simp only[yJ8]
theorem yJo (a b:Tm)(l m:List Tm):yJ8 (a::l) (b::m)=lexI (yV6 a b) (yJ8 l m):=by simp only[yJ8]
theorem yG2:yWl [] []=0:=by simp only[yWl]
theorem yG1 (a b:Fm)(l m:List Fm):yWl (a::l) (b::m)=lexI (yZa a b) (yWl l m):=by simp only[yWl]
theorem yY6 (v v':Bool)(n n':ByteArray)(us us':List Tm):yV6 (.mk v n us) (.mk v' n' us')=if v=v' then lexI (cmpB n n') (lenL yJ8 us us') else if v=true then -1 else 1:=by simp only[yV6,lenL]
theorem yY7 (o o':Nat)(n n':ByteArray)(us us':List Tm)(sub sub':List Fm):yZa (.mk o n us sub) (.mk o' n' us' sub')=lexI (cmpN o o') (lexI (cmpB n n') (lexI (lenL yJ8 us us') (lenL yWl sub sub'))):=by simp only[yZa,lenL]
theorem xWb {p:Tm->Prop}(h:∀v n us,(∀a∈us,p a)->p (.mk v n us))(t:Tm):p t:=by
 have key:∀(k:Nat) (t:Tm),SizeOf.sizeOf t<k->p t:=λk=>by
  induction k with
  | zero=>intro t ht;omega
  | succ k ih =>
   rintro⟨v,n,us⟩ ht;refine h v n us λa ha=>ih a ?_;have:=lSm ha;grind
 exact key _ t (Nat.lt_succ_self _)
theorem xJa {p:Fm->Prop}(h:∀o n us sub,(∀a∈sub,p a)->p (.mk o n us sub))(t:Fm):p t:=by
 have key:∀(k:Nat) (t:Fm),SizeOf.sizeOf t<k->p t:=λk=>by
  induction k with
  | zero=>intro t ht;omega
  | succ k ih =>
   rintro⟨o,n,us,sub⟩ ht;refine h o n us sub λa ha=>ih a ?_;have:=lSm ha;grind
 exact key _ t (Nat.lt_succ_self _)
theorem yU1 (a b:Tm):yV6 a b=0↔a=b:=by
 revert b;refine xWb (p:=λa=>∀b,yV6 a b=0↔a=b) (λv n us ih b=>?_) a;obtain⟨v',n',us'⟩:=b;rw[yY6,Tm.mk.injEq];by_cases hv:v=v'
 ·rw[if_pos hv,yK5,(yXu n).eq,zX3 yJp yJo ih];simp[hv]
 ·grind
theorem xUt (a b:Tm):yV6 b a = - yV6 a b:=by
 revert b;refine xWb (p:=λa=>∀b,yV6 b a = - yV6 a b) (λv n us ih b=>?_) a;obtain⟨v',n',us'⟩:=b;rw[yY6,yY6];by_cases hv:v=v'
 ·rw[if_pos hv,if_pos hv.symm,(yXu n).neg,zVy yJp yJo ih,yVk]
 ·grind
theorem wXr (a b c:Tm):yV6 a b<0->yV6 b c<0->yV6 a c<0:=by
 revert b c;refine xWb (p:=λa=>∀b c,yV6 a b<0->yV6 b c<0->yV6 a c<0) (λv n us ih b c=>?_) a;obtain⟨v',n',us'⟩:=b;obtain⟨v'',n'',us''⟩:=c;rw[yY6,yY6,yY6];have hl:=λ(h:lexI (cmpB n n') (lenL yJ8 us us')<0) (k:lexI (cmpB n' n'') (lenL yJ8 us' us'')<0) =>
  zKe (r:=cmpB n n'') (r':=lenL yJ8 us us'') ((yXu n).tr n' n'') (λe=>by rw[((yXu n).eq n').1 e]) (λe=>by rw[((yXu n').eq n'').1 e]) (xQh yJp yJo yU1 ih us' us'') h k
 grind
theorem yJ4 (a b:Fm):yZa a b=0↔a=b:=by
 revert b;refine xJa (p:=λa=>∀b,yZa a b=0↔a=b) (λo n us sub ih b=>?_) a;obtain⟨o',n',us',sub'⟩:=b;rw[yY7,Fm.mk.injEq,yK5,yK5,yK5,yZy,(yXu n).eq,zX3 yJp yJo (λa _=>yU1 a),zX3 yG2 yG1 ih]
theorem yV7 (a b:Fm):yZa b a = - yZa a b:=by
 revert b;refine xJa (p:=λa=>∀b,yZa b a = - yZa a b) (λo n us sub ih b=>?_) a;obtain⟨o',n',us',sub'⟩:=b;rw[yY7,yY7,(yWk o).neg,(yXu n).neg,zVy yJp yJo (λa _=>xUt a),zVy yG2 yG1 ih,yVk,yVk,yVk]
theorem yVo (a b c:Fm):yZa a b<0->yZa b c<0->yZa a c<0:=by
 revert b c;refine xJa (p:=λa=>∀b c,yZa a b<0->yZa b c<0->yZa a c<0) (λo n us sub ih b c=>?_) a;obtain⟨o',n',us',sub'⟩:=b;obtain⟨o'',n'',us'',sub''⟩:=c;rw[yY7,yY7,yY7];refine zKe ((yWk o).tr o' o'') (λe=>by rw[yZy.1 e]) (λe=>by rw[yZy.1 e]) ?_;refine zKe ((yXu n).tr n' n'') (λe=>by rw[((yXu n).eq n').1 e]) (λe=>by rw[((yXu n').eq n'').1 e]) ?_;exact zKe (xQh yJp yJo yU1 (λa _=>wXr a) us' us'') (λe=>by rw[(zX3 yJp yJo (λa _=>yU1 a) us').1 e]) (λe=>by rw[(zX3 yJp yJo (λa _=>yU1 a) us'').1 e])
  (xQh yG2 yG1 yJ4 ih sub' sub'')
def SetF (l r:List Fm):Prop:=r.Pairwise (λa b=>yZa a b<0)/\∀f,f∈r↔f∈l
theorem yV8 (a:Fm):¬ yZa a a<0:=by rw[(yJ4 a a).2 rfl];omega
theorem SetF.uniq:∀ {r r':List Fm},r.Pairwise (λa b=>yZa a b<0)->r'.Pairwise (λa b=>yZa a b<0)->(∀x,x∈r↔x∈r')->r=r'
 | [],r',_,_,h=>by
  cases r' with
  | nil=>rfl
  | cons b r'=>exact absurd ((h b).2 (List.mem_cons_self ..)) (by simp)
 | a::r,[],_,_,h=>absurd ((h a).1 (List.mem_cons_self ..)) (by simp)
 | a::r,b::r',h1,h2,h=>by
  have p1:=List.pairwise_cons.1 h1;have p2:=List.pairwise_cons.1 h2;have hab:a=b:=by
   refine Classical.byContradiction λhne=>?_;have ha:a∈r':=by
    grind
   have hb:b∈r:=by
    grind
   have h3:=p1.1 b hb;have h4:=p2.1 a ha;rw[yV7] at h4;omega
  subst hab;congr 1;refine SetF.uniq p1.2 p2.2 λx=>?_;constructor
  ·intro hx;rcases List.mem_cons.1 ((h x).1 (List.mem_cons_of_mem _ hx)) with e|e
   ·subst e;exact absurd (p1.1 _ hx) (yV8 _)
   ·exact e
  ·intro hx;rcases List.mem_cons.1 ((h x).2 (List.mem_cons_of_mem _ hx)) with e|e
   ·subst e;exact absurd (p2.1 _ hx) (yV8 _)
   ·exact e
theorem SetF.one {l r r':List Fm}(h:SetF l r)(h':SetF l r'):r=r':=SetF.uniq h.1 h'.1 λx=>(h.2 x).trans (h'.2 x).symm
end Go.Proofs.Tryz
namespace Go.Proofs.Tryz
open Go Go.Iv
open Classical in
noncomputable def setF (l:List Fm):List Fm:=if h:∃r,SetF l r then h.choose else []
theorem yUe {l r:List Fm}(h:SetF l r):setF l=r:=by
 have he:∃r,SetF l r:=⟨r,h⟩
 unfold setF;rw[dif_pos he];exact SetF.one he.choose_spec h
theorem wZ3:setF []=[]:=yUe ⟨List.Pairwise.nil,λ_=>Iff.rfl⟩
theorem vX7 {α:Type}(p q:α->Bool)(h:∀x,¬ (p x=true/\q x=true)):∀l:List α,(l.filter p).length+(l.filter q).length<=l.length
 | []=>by simp
 | a::l=>by
  have ih:=vX7 p q h l;grind
theorem zUx:∀l:List Fm,∃r,SetF l r/\r.length<=l.length
 | []=>⟨[],⟨List.Pairwise.nil,λ_=>Iff.rfl⟩,Nat.le_refl _⟩
 | a::l=>by
  obtain⟨r,⟨h1,h2⟩,h3⟩:=zUx l;by_cases ha:a∈r
  ·refine⟨r,⟨h1,λf=>?_⟩,by simp only[List.length_cons];omega⟩;grind
  ·have hx:∀x∈r,yZa x a<0\/yZa a x<0:=λx hx=>by
    have h0:yZa a x≠0:=λh=>ha (((yJ4 a x).1 h)▸hx);have hn:=yV7 a x;omega
   have h4:=vX7 (λx=>decide (yZa x a<0)) (λx=>decide (yZa a x<0)) (λx ⟨q1,q2⟩=>by
    have q1:=of_decide_eq_true q1;have q2:=of_decide_eq_true q2;have hn:=yV7 a x;omega) r
   refine⟨r.filter (λx=>decide (yZa x a<0))++a::r.filter (λx=>decide (yZa a x<0)),⟨?_,λf=>?_⟩,by simp only[lLa,List.length_cons];omega⟩
   ·refine List.pairwise_append.2 ⟨h1.filter _,List.pairwise_cons.2 ⟨λy hy=>?_,h1.filter _⟩,λx hxm y hy=>?_⟩
    ·grind
    ·have hxa:=of_decide_eq_true (List.mem_filter.1 hxm).2;rcases List.mem_cons.1 hy with rfl|hy
     ·exact hxa
     ·exact yVo _ _ _ hxa (of_decide_eq_true (List.mem_filter.1 hy).2)
   ·grind
theorem wVg (l:List Fm):SetF l (setF l):=by
 obtain⟨r,h,_⟩:=zUx l;rw[yUe h];exact h
end Go.Proofs.Tryz
namespace Go.Proofs.Tryz
open Go Go.Iv
abbrev Sn:=List Fm×List Fm
noncomputable def nf (s:Sn):Sn:=(setF s.1,setF s.2)
theorem yGg {l:List Fm}{f:Fm}:f∈setF l↔f∈l:=(wVg l).2 f
noncomputable def wZm (j:Bool)(s p:Sn):Sn:=nf (s.1++p.1,rgt j s.2 p.2)
noncomputable def zVp (j:Bool)(s:Sn)(r:Bool)(f:Fm):List (Nat×Fm×List Sn):=(addF j f r).map λt=>(t.1,f,t.2.map (wZm j s))
noncomputable def mvF (j:Bool)(s:Sn):List (Nat×Fm×List Sn):=s.1.flatMap (zVp j s false)++s.2.flatMap (zVp j s true)
def tooL (j:Bool)(s p:Sn):Prop:=64<s.1.length+p.1.length\/64<(if j=true/\p.2≠[] then 0 else s.2.length)+p.2.length
def zYu (j:Bool)(s:Sn):Prop:=∃f r,f∈(if r=true then s.2 else s.1)/\∃t∈addF j f r,∃p∈t.2,tooL j s p
inductive Rch (j:Bool)(s0:Sn):Sn->Prop
 | refl:Rch j s0 s0
 | step {s:Sn} (h:Rch j s0 s) (hc:¬ ClF s.1 s.2) {m:Nat×Fm×List Sn} (hm:m∈mvF j s) {p:Sn} (hp:p∈m.2.2):Rch j s0 p
theorem Rch.trans {j:Bool}{s0 s1 s:Sn}(h:Rch j s0 s1)(k:Rch j s1 s):Rch j s0 s:=by
 induction k with
 | refl=>exact h
 | step _ hc hm hp ih=>exact .step ih hc hm hp
structure ReachOk (j:Bool)(s0:Sn)(K:List Sn):Prop where
 nodup:K.Nodup
 mem:∀s,s∈K↔Rch j s0 s
 short:∀s∈K,¬ ClF s.1 s.2->¬ zYu j s
 len:K.length<=20000
def zQ6 (j:Bool)(s0:Sn)(e:Nat):Prop:=(e=4/\∃K:List Sn,K.Nodup/\(∀s∈K,Rch j s0 s)/\20000<K.length)\/(e=5/\∃s,Rch j s0 s/\¬ ClF s.1 s.2/\zYu j s)
open Classical in
theorem yUk {α:Type}{a b:List α}(h:a.Nodup)(hs:∀x∈a,x∈b):a.length<=b.length:=yGo a b h hs
theorem ReachOk.no {j:Bool}{s0 s1:Sn}{K:List Sn}(h:ReachOk j s0 K)(hr:Rch j s0 s1){e:Nat}(hn:zQ6 j s1 e):False:=by
 rcases hn with⟨_,L,h1,h2,h3⟩|⟨_,s,h1,h2,h3⟩
 ·have:=yUk h1 λs hs=>(h.mem s).2 (hr.trans (h2 s hs));have:=h.len;omega
 ·exact h.short s ((h.mem s).2 (hr.trans h1)) h2 h3
theorem ReachOk.len_eq {j:Bool}{s0:Sn}{K K':List Sn}(h:ReachOk j s0 K)(hn:K'.Nodup)(hm:∀s,s∈K'↔Rch j s0 s):K.length=K'.length:=by
 have h1:=yUk h.nodup λs hs=>(hm s).2 ((h.mem s).1 hs);have h2:=yUk hn λs hs=>(h.mem s).2 ((hm s).1 hs);omega
abbrev HtS (j:Bool)(n:Nat)(s:Sn):Prop:=HtF j n s.1 s.2
theorem wX9 {j:Bool}{n:Nat}{s:Sn}:HtS j n (nf s)↔HtS j n s :=
 ⟨λh=>h.sub (λ_=>yGg.1) λ_=>yGg.1,λh=>h.sub (λ_=>yGg.2) λ_=>yGg.2⟩
open Classical in
noncomputable def hF (j:Bool)(s:Sn):Nat:=if h:∃n,HtS j n s then (yKo h).choose else 0
theorem xU3 {j:Bool}{s:Sn}{n:Nat}(h:HtS j n s):HtS j (hF j s) s/\hF j s<=n/\0<hF j s:=by
 have he:∃n,HtS j n s:=⟨n,h⟩
 unfold hF;rw[dif_pos he];have h1:=(yKo he).choose_spec;refine⟨h1.1,h1.2 n h,?_⟩;have h1:=h1.1;cases hz:(yKo he).choose with
 | zero=>rw[hz] at h1;exact h1.elim
 | succ k=>omega
theorem xU1 {j:Bool}{s:Sn}:hF j s=0↔UnP j s.1 s.2:=by
 constructor
 ·intro h n hn;have:=(xU3 hn).2.2;omega
 ·intro h;unfold hF;rw[dif_neg λ⟨n,hn⟩=>h n hn]
theorem xU2 {j:Bool}{s:Sn}(h:0<hF j s):HtS j (hF j s) s:=by
 by_cases he:∃n,HtS j n s
 ·obtain⟨n,hn⟩:=he;exact (xU3 hn).1
 ·unfold hF at h;rw[dif_neg he] at h;omega
theorem wWg {j:Bool}{s:Sn}{h:Nat}(h1:0<h->HtS j h s)(h2:∀n,HtS j n s->0<h/\h<=n):hF j s=h:=by
 by_cases he:∃n,HtS j n s
 ·obtain⟨n,hn⟩:=he;have h3:=h2 _ (xU3 hn).1;have h4:=(xU3 (h1 h3.1)).2.1;omega
 ·have:hF j s=0:=xU1.2 λn hn=>he ⟨n,hn⟩;rw[this];rcases Nat.eq_zero_or_pos h with h0|h0
  ·exact h0.symm
  ·exact (he ⟨h,h1 h0⟩).elim
theorem wWf (j:Bool)(s:Sn):hF j (nf s)=hF j s:=by
 refine wWg (λh=>wX9.2 (xU2 h)) λn hn=>?_;have:=xU3 (wX9.1 hn);exact⟨this.2.2,this.2.1⟩
theorem zW9 {j:Bool}{n:Nat}{s:Sn}:HtS j (n+1) s↔ClF s.1 s.2\/∃m∈mvF j s,∀p∈m.2.2,HtS j n p:=by
 have key:∀f r,(∃m∈zVp j s r f,∀p∈m.2.2,HtS j n p)↔∃t∈addF j f r,∀p∈t.2,HtF j n (s.1++p.1) (rgt j s.2 p.2):=λf r=>by
  constructor
  ·rintro⟨m,hm,h⟩;obtain⟨t,ht,rfl⟩:=List.mem_map.1 hm;exact⟨t,ht,λp hp=>wX9.1 (h _ (List.mem_map_of_mem hp))⟩
  ·rintro⟨t,ht,h⟩;refine⟨_,List.mem_map_of_mem ht,λp hp=>?_⟩;obtain⟨q,hq,rfl⟩:=List.mem_map.1 hp;exact wX9.2 (h q hq)
 constructor
 ·rintro (h|⟨f,r,h1,h2⟩)
  ·exact .inl h
  ·obtain⟨m,hm,h⟩:=(key f r).2 h2;refine .inr ⟨m,?_,h⟩;cases r
   ·exact List.mem_append_left _ (List.mem_flatMap.2 ⟨f,h1,hm⟩)
   ·exact List.mem_append_right _ (List.mem_flatMap.2 ⟨f,h1,hm⟩)
 ·rintro (h|⟨m,hm,h⟩)
  ·exact .inl h
  ·rcases List.mem_append.1 hm with hm|hm
   ·obtain⟨f,hf,hm⟩:=List.mem_flatMap.1 hm;exact .inr ⟨f,false,hf,(key f false).1 ⟨m,hm,h⟩⟩
   ·obtain⟨f,hf,hm⟩:=List.mem_flatMap.1 hm;exact .inr ⟨f,true,hf,(key f true).1 ⟨m,hm,h⟩⟩
end Go.Proofs.Tryz
namespace Go.Proofs.Tryz
open Go Go.Iv
def insN (x:Nat):List Nat->List Nat
 | []=>[x]
 | y::l=>if x<y then x::y::l else if x=y then y::l else y::insN x l
def sdN:List Nat->List Nat
 | []=>[]
 | x::l=>insN x (sdN l)
def Inc (l:List Nat):Prop:=l.Pairwise (·<·)
theorem zW4 {x y:Nat}:∀ {l:List Nat},y∈insN x l↔y=x\/y∈l
 | []=>by simp[insN]
 | z::l=>by
  unfold insN;split
  ·simp
  ·split
   ·rename_i h;subst h;simp
   ·rw[List.mem_cons,zW4,List.mem_cons];grind
theorem xXx {x:Nat}:∀ {l:List Nat},Inc l->Inc (insN x l)
 | [],_=>List.pairwise_singleton ..
 | z::l,h=>by
  have h1:=List.pairwise_cons.1 h;unfold insN;split
  ·rename_i hx;refine List.pairwise_cons.2 ⟨λy hy=>?_,h⟩;rcases List.mem_cons.1 hy with rfl|hy
   ·exact hx
   ·exact Nat.lt_trans hx (h1.1 y hy)
  ·split
   ·exact h
   ·refine List.pairwise_cons.2 ⟨λy hy=>?_,xXx h1.2⟩;rcases zW4.1 hy with rfl|hy
    ·omega
    ·exact h1.1 y hy
theorem sdN_mem {x:Nat}:∀ {l:List Nat},x∈sdN l↔x∈l
 | []=>Iff.rfl
 | y::l=>by rw[sdN,zW4,sdN_mem,List.mem_cons]
theorem zZo:∀l:List Nat,Inc (sdN l)
 | []=>List.Pairwise.nil
 | _::l=>xXx (zZo l)
theorem Inc.uniq:∀ {r r':List Nat},Inc r->Inc r'->(∀x,x∈r↔x∈r')->r=r'
 | [],r',_,_,h=>by
  cases r' with
  | nil=>rfl
  | cons b r'=>exact absurd ((h b).2 (.head _)) (by simp)
 | a::r,[],_,_,h=>absurd ((h a).1 (.head _)) (by simp)
 | a::r,b::r',h1,h2,h=>by
  have p1:=List.pairwise_cons.1 h1;have p2:=List.pairwise_cons.1 h2;have hab:a=b:=by
   have ha:=(h a).1 (.head _);have hb:=(h b).2 (.head _);rcases List.mem_cons.1 ha with e|ha
   ·exact e
   ·rcases List.mem_cons.1 hb with e|hb
    ·exact e.symm
    ·have:=p1.1 b hb;have:=p2.1 a ha;omega
  subst hab;congr 1;refine Inc.uniq p1.2 p2.2 λx=>?_;constructor
  ·intro hx;rcases List.mem_cons.1 ((h x).1 (.tail _ hx)) with e|e
   ·subst e;exact absurd (p1.1 _ hx) (nLi _)
   ·exact e
  ·intro hx;rcases List.mem_cons.1 ((h x).2 (.tail _ hx)) with e|e
   ·subst e;exact absurd (p2.1 _ hx) (nLi _)
   ·exact e
theorem wUm {l r:List Nat}(h:Inc r)(hm:∀x,x∈r↔x∈l):sdN l=r:=Inc.uniq (zZo l) h λx=>sdN_mem.trans (hm x).symm
theorem zG5 {l:List Nat}(h:Inc l):l.Nodup:=h.imp λh=>Nat.ne_of_lt h
theorem yWg {l:List Nat}(h:Inc l){n:Nat}(hn:∀x∈l,x<n):l.length<=n:=by
 have:=yUk (zG5 h) (b:=List.range n) λx hx=>List.mem_range.2 (hn x hx)
 rwa [List.length_range] at this
def ddP (p:Nat):List Nat->List Nat
 | []=>[]
 | b::l=>if b=p then ddP b l else b::ddP b l
def ddN:List Nat->List Nat
 | []=>[]
 | a::l=>a::ddP a l
theorem zWm:∀(p:Nat)(l:List Nat)(a b:Nat),(p::l).getLast?=some a->ddP p (l++[b])=ddP p l++(if b=a then [] else [b])
 | p,[],a,b,h=>by
  simp only[List.getLast?_singleton,Option.some.injEq] at h;subst h;simp only[List.nil_append,ddP]
 | p,c::l,a,b,h=>by
  rw[List.getLast?_cons_cons] at h;simp only[List.cons_append,ddP,zWm c l a b h];split<;>rfl
theorem xJh {m:List Nat}{k a b:Nat}(ha:m[k]?=some a)(hb:m[k+1]?=some b):ddN (m.take (k+1+1))=ddN (m.take (k+1))++(if b=a then [] else [b]):=by
 rw[yQ7 hb,yQ7 ha];cases hm:m.take k with
 | nil=>exact congrArg (a::·) (zWm a [] a b rfl)
 | cons p l=>exact congrArg (p::·) (zWm p (l++[a]) a b (by rw[<- List.cons_append,List.getLast?_concat]))
theorem wKg:∀(p:Nat)(l:List Nat),(p::l).Pairwise (·<=·)->(∀x,x∈p::ddP p l↔x∈p::l)/\Inc (p::ddP p l)
 | p,[],_=>⟨λ_=>Iff.rfl,List.pairwise_singleton ..⟩
 | p,b::l,h=>by
  have h1:=List.pairwise_cons.1 h;obtain⟨i1,i2⟩:=wKg b l h1.2;simp only[ddP];by_cases hc:b=p
  ·subst hc;rw[if_pos rfl];exact⟨λx=>by rw[i1 x];simp,i2⟩
  ·rw[if_neg hc];have hlt:p<b:=by have:=h1.1 b (.head _);omega
   refine⟨λx=>by rw[List.mem_cons,i1 x,List.mem_cons (l:=b::l)],List.pairwise_cons.2 ⟨λy hy=>?_,i2⟩⟩;rcases List.mem_cons.1 hy with rfl|hy
   ·exact hlt
   ·exact Nat.lt_trans hlt ((List.pairwise_cons.1 i2).1 y hy)
theorem wKi {l:List Nat}(h:l.Pairwise (·<=·)):(∀x,x∈ddN l↔x∈l)/\Inc (ddN l):=by
 cases l with
 | nil=>exact⟨λ_=>Iff.rfl,List.Pairwise.nil⟩
 | cons a l=>exact wKg a l h
theorem wKh {l m:List Nat}(hp:m.Perm l)(h:m.Pairwise (·<=·)):ddN m=sdN l :=
 (wUm (wKi h).2 λx=>((wKi h).1 x).trans hp.mem_iff).symm
theorem zZn (l:List Nat):(sdN l).length<=l.length:=yUk (zG5 (zZo l)) λ_=>sdN_mem.1
def Srt (W:List Fm):Prop:=W.Pairwise λa b=>yZa a b<0
theorem zJu {W:List Fm}(h:Srt W){i k:Nat}{a b:Fm}(ha:W[i]?=some a)(hb:W[k]?=some b)(hik:i<k):yZa a b<0:=by
 obtain⟨h1,h2⟩:=lGs ha;obtain⟨h3,h4⟩:=lGs hb;have:=List.pairwise_iff_getElem.1 h i k h1 h3 hik
 rwa [h2,h4] at this
theorem zUi {W:List Fm}(h:Srt W){i k:Nat}{a:Fm}(ha:W[i]?=some a)(hb:W[k]?=some a):i=k:=by
 rcases Nat.lt_trichotomy i k with h1|h1|h1
 ·exact absurd (zJu h ha hb h1) (yV8 a)
 ·exact h1
 ·exact absurd (zJu h hb ha h1) (yV8 a)
def fmW (W:List Fm)(l:List Nat):List Fm:=l.filterMap λi=>W[i]?
theorem yZl {W:List Fm}{l:List Nat}{f:Fm}:f∈fmW W l↔∃i∈l,W[i]?=some f:=by simp[fmW]
def Ix (W:List Fm)(l:List Nat):Prop:=Inc l/\∀i∈l,i<W.length
theorem Ix.tail {W:List Fm}{i:Nat}{l:List Nat}(h:Ix W (i::l)):Ix W l:=⟨(List.pairwise_cons.1 h.1).2,λk hk=>h.2 k (.tail _ hk)⟩
theorem Ix.get {W:List Fm}{l:List Nat}(h:Ix W l){i:Nat}(hi:i∈l):∃f,W[i]?=some f:=⟨_,List.getElem?_eq_getElem (h.2 i hi)⟩
theorem zWe {W:List Fm}{i:Nat}{l:List Nat}{f:Fm}(h:W[i]?=some f):fmW W (i::l)=f::fmW W l:=by simp[fmW,h]
theorem xUa {W:List Fm}(hW:Srt W):∀ {l:List Nat},Ix W l->Srt (fmW W l)
 | [],_=>List.Pairwise.nil
 | i::l,h=>by
  obtain⟨f,hf⟩:=h.get (.head _);rw[zWe hf];refine List.pairwise_cons.2 ⟨λg hg=>?_,xUa hW h.tail⟩;obtain⟨k,hk,hkg⟩:=yZl.1 hg;exact zJu hW hf hkg ((List.pairwise_cons.1 h.1).1 k hk)
theorem xQu {W:List Fm}:∀ {l:List Nat},Ix W l->(fmW W l).length=l.length
 | [],_=>rfl
 | i::l,h=>by
  obtain⟨f,hf⟩:=h.get (.head _);rw[zWe hf,List.length_cons,List.length_cons,xQu h.tail]
theorem xJc {W:List Fm}(hW:Srt W){l:List Nat}(h:Ix W l){m:List Fm}(hm:∀f,f∈fmW W l↔f∈m):fmW W l=setF m:=(yUe ⟨xUa hW h,hm⟩).symm
theorem xUb {W:List Fm}(hW:Srt W){l m:List Nat}(hl:Ix W l)(hm:Ix W m)(h:fmW W l=fmW W m):l=m:=by
 refine Inc.uniq hl.1 hm.1 λi=>?_;have key:∀ {l m:List Nat},Ix W l->fmW W l=fmW W m->i∈l->i∈m:=λhl h hi=>by
  obtain⟨f,hf⟩:=hl.get hi;have:f∈fmW W _:=yZl.2 ⟨i,hi,hf⟩;rw[h] at this;obtain⟨k,hk,hkf⟩:=yZl.1 this
  rwa [zUi hW hf hkf]
 exact⟨key hl h,key hm h.symm⟩
open Classical in
noncomputable def noW (W:List Fm)(f:Fm):Nat:=if h:∃i,W[i]?=some f then h.choose else 0
theorem xXd {W:List Fm}{f:Fm}(h:f∈W):W[noW W f]?=some f:=by
 obtain⟨i,hi⟩:=List.mem_iff_getElem?.1 h;have he:∃i,W[i]?=some f:=⟨i,hi⟩
 unfold noW;rw[dif_pos he];exact he.choose_spec
theorem vQ0 {W:List Fm}(hW:Srt W){f:Fm}{i:Nat}(h:W[i]?=some f):noW W f=i:=zUi hW (xXd (lMg h)) h
noncomputable def zZz (W:List Fm)(l:List Fm):List Nat:=sdN (l.map (noW W))
theorem yWz {W:List Fm}{l:List Fm}(h:∀f∈l,f∈W):Ix W (zZz W l):=by
 refine⟨zZo _,λi hi=>?_⟩;obtain⟨f,hf,rfl⟩:=List.mem_map.1 (sdN_mem.1 hi);exact (lGs (xXd (h f hf))).1
theorem yW8 {W:List Fm}{l:List Fm}(h:∀f∈l,f∈W){f:Fm}:f∈fmW W (zZz W l)↔f∈l:=by
 rw[yZl];constructor
 ·rintro⟨i,hi,hf⟩;obtain⟨g,hg,rfl⟩:=List.mem_map.1 (sdN_mem.1 hi);rw[xXd (h g hg)] at hf;cases hf;exact hg
 ·intro hf;exact⟨_,sdN_mem.2 (List.mem_map_of_mem hf),xXd (h f hf)⟩
abbrev Ln:=List Nat×List Nat
def lnW (W:List Fm)(ln:Ln):Sn:=(fmW W ln.1,fmW W ln.2)
def LnOk (W:List Fm)(ln:Ln):Prop:=Ix W ln.1/\Ix W ln.2
noncomputable def zVu (W:List Fm)(s:Sn):Ln:=(zZz W s.1,zZz W s.2)
def InW (W:List Fm)(s:Sn):Prop:=(∀f∈s.1,f∈W)/\∀f∈s.2,f∈W
theorem zVt {W:List Fm}{s:Sn}(h:InW W s):LnOk W (zVu W s):=⟨yWz h.1,yWz h.2⟩
theorem zZ2 {W:List Fm}(hW:Srt W){s:Sn}(h:InW W s):lnW W (zVu W s)=nf s:=by
 unfold lnW zVu nf;rw[xJc hW (yWz h.1) λf=>yW8 h.1,xJc hW (yWz h.2) λf=>yW8 h.2]
theorem xG4 {W:List Fm}(hW:Srt W){a b:Ln}(ha:LnOk W a)(hb:LnOk W b)(h:lnW W a=lnW W b):a=b:=by
 have h1:=congrArg Prod.fst h;have h2:=congrArg Prod.snd h;exact Prod.ext (xUb hW ha.1 hb.1 h1) (xUb hW ha.2 hb.2 h2)
abbrev Ex:=Ln×Nat×Nat
noncomputable def exW (W:List Fm)(p:Sn):Ex:=(zVu W p,p.1.length,p.2.length)
def rgtN (j:Bool)(ln:Ln)(x:Ex):List Nat:=if j=true/\0<x.2.2 then [] else ln.2
def yGl (j:Bool)(ln:Ln)(x:Ex):Ln:=(sdN (ln.1++x.1.1),sdN (rgtN j ln x++x.1.2))
def tooN (j:Bool)(ln:Ln)(x:Ex):Bool:=decide (64<ln.1.length+x.2.1) || decide (64<(rgtN j ln x).length+x.2.2)
theorem wK3 {W:List Fm}{a b:List Nat}(ha:∀i∈a,i<W.length)(hb:∀i∈b,i<W.length):Ix W (sdN (a++b)) :=
 ⟨zZo _,λi hi=>(List.mem_append.1 (sdN_mem.1 hi)).elim (ha i) (hb i)⟩
theorem wVm {W:List Fm}{j:Bool}{ln:Ln}{x:Ex}(h:LnOk W ln):∀i∈rgtN j ln x,i<W.length:=by
 unfold rgtN;split
 ·intro i hi;cases hi
 ·exact h.2.2
theorem xX7 {W:List Fm}{j:Bool}{ln:Ln}{p:Sn}(h:LnOk W ln)(hp:InW W p):LnOk W (yGl j ln (exW W p)) :=
 ⟨wK3 h.1.2 (yWz hp.1).2,wK3 (wVm h) (yWz hp.2).2⟩
theorem wZl {W:List Fm}(hW:Srt W){j:Bool}{ln:Ln}{p:Sn}(h:LnOk W ln)(hp:InW W p):lnW W (yGl j ln (exW W p))=wZm j (lnW W ln) p:=by
 have hk:=xX7 (j:=j) h hp;unfold wZm nf;refine Prod.ext ?_ ?_
 ·refine xJc hW hk.1 λf=>?_;rw[yZl,List.mem_append];simp only[yGl,sdN_mem,List.mem_append];constructor
  ·rintro⟨i,hi|hi,hf⟩
   ·exact .inl (yZl.2 ⟨i,hi,hf⟩)
   ·exact .inr ((yW8 hp.1).1 (yZl.2 ⟨i,hi,hf⟩))
  ·rintro (hf|hf)
   ·obtain⟨i,hi,hf⟩:=yZl.1 hf;exact⟨i,.inl hi,hf⟩
   ·obtain⟨i,hi,hf⟩:=yZl.1 ((yW8 hp.1).2 hf);exact⟨i,.inr hi,hf⟩
 ·refine xJc hW hk.2 λf=>?_;have hpos:0<(exW W p).2.2↔p.2≠[]:=by simp[exW,List.length_pos_iff]
  rw[yZl];unfold rgt;simp only[yGl,sdN_mem,List.mem_append,rgtN,hpos];have hr:∀ {f},f∈fmW W (exW W p).1.2↔f∈p.2:=yW8 hp.2;by_cases hc:j=true/\p.2≠[]
  ·rw[if_pos hc,if_pos hc];constructor
   ·rintro⟨i,hi|hi,hf⟩
    ·cases hi
    ·exact hr.1 (yZl.2 ⟨i,hi,hf⟩)
   ·intro hf;obtain⟨i,hi,hf⟩:=yZl.1 (hr.2 hf);exact⟨i,.inr hi,hf⟩
  ·rw[if_neg hc,if_neg hc,List.mem_append];constructor
   ·rintro⟨i,hi|hi,hf⟩
    ·exact .inl (yZl.2 ⟨i,hi,hf⟩)
    ·exact .inr (hr.1 (yZl.2 ⟨i,hi,hf⟩))
   ·rintro (hf|hf)
    ·obtain⟨i,hi,hf⟩:=yZl.1 hf;exact⟨i,.inl hi,hf⟩
    ·obtain⟨i,hi,hf⟩:=yZl.1 (hr.2 hf);exact⟨i,.inr hi,hf⟩
theorem xWa {W:List Fm}{j:Bool}{ln:Ln}{p:Sn}(h:LnOk W ln):tooN j ln (exW W p)=true↔tooL j (lnW W ln) p:=by
 have hpos:0<(exW W p).2.2↔p.2≠[]:=by simp[exW,List.length_pos_iff]
 have hr:(rgtN j ln (exW W p)).length=if j=true/\p.2≠[] then 0 else (fmW W ln.2).length:=by
  unfold rgtN;by_cases hc:j=true/\p.2≠[]
  ·rw[if_pos hc,if_pos ⟨hc.1,hpos.2 hc.2⟩];rfl
  ·rw[if_neg hc,if_neg λh=>hc ⟨h.1,hpos.1 h.2⟩,xQu h.2]
 unfold tooN tooL;rw[Bool.or_eq_true,dTe,dTe,hr,lnW,xQu h.1];rfl
def clN (W:List Fm)(ln:Ln):Prop:=(∃i∈ln.1,i∈ln.2)\/∃i∈ln.1,∃f,W[i]?=some f/\zX7 f=true
theorem zQm {W:List Fm}(hW:Srt W){ln:Ln}(h:LnOk W ln):clN W ln↔ClF (lnW W ln).1 (lnW W ln).2:=by
 unfold clN ClF lnW;refine or_congr ⟨?_,?_⟩ ⟨?_,?_⟩
 ·rintro⟨i,h1,h2⟩;obtain⟨f,hf⟩:=h.1.get h1;exact⟨f,yZl.2 ⟨i,h1,hf⟩,yZl.2 ⟨i,h2,hf⟩⟩
 ·rintro⟨f,h1,h2⟩;obtain⟨i,hi,hf⟩:=yZl.1 h1;obtain⟨k,hk,hkf⟩:=yZl.1 h2;exact⟨i,hi,by rw[zUi hW hf hkf];exact hk⟩
 ·rintro⟨i,h1,f,hf,h2⟩;exact⟨f,yZl.2 ⟨i,h1,hf⟩,h2⟩
 ·rintro⟨f,h1,h2⟩;obtain⟨i,hi,hf⟩:=yZl.1 h1;exact⟨i,hi,f,hf,h2⟩
end Go.Proofs.Tryz
namespace Go.Proofs
open Go.Shelf
def Tryz.sortIL_ren:Go.Shelf.Ren:=⟨λ| 5=>106|8=>121|7=>135|19=>162|20=>163|10=>180|11=>181|12=>182|13=>183|14=>184|15=>185|16=>103|17=>186|18=>187|30=>228|31=>203|32=>204|33=>229|34=>230|35=>134|40=>249|n=>n,λ| 23=>51|25=>3|3=>3|32=>185|22=>51|0=>0|44=>262|46=>264|4=>4|36=>256|35=>255|41=>125|5=>5|9=>9|53=>286|57=>290|63=>307|64=>308|n=>n,λ| n=>n⟩
theorem Tryz.sortIL:Go.Proofs.SlLaysM.n5 Tryz.prog Tryz.sortIL_ren:={
 mixed:=by kernel_rfl
 f5:=⟨Tryz.f106.name,by decide,Tryz.func106.trans (congrArg some (by kernel_rfl))⟩
 f7:=⟨Tryz.f135.name,by decide,Tryz.func135.trans (congrArg some (by kernel_rfl))⟩
 f8:=Tryz.func121.trans (congrArg some (by kernel_rfl))
 f10:=⟨Tryz.f180.name,by decide,Tryz.func180.trans (congrArg some (by kernel_rfl))⟩
 f11:=⟨Tryz.f181.name,by decide,Tryz.func181.trans (congrArg some (by kernel_rfl))⟩
 f12:=⟨Tryz.f182.name,by decide,Tryz.func182.trans (congrArg some (by kernel_rfl))⟩
 f13:=⟨Tryz.f183.name,by decide,Tryz.func183.trans (congrArg some (by kernel_rfl))⟩
 f14:=⟨Tryz.f184.name,by decide,Tryz.func184.trans (congrArg some (by kernel_rfl))⟩
 f15:=⟨Tryz.f185.name,by decide,Tryz.func185.trans (congrArg some (by kernel_rfl))⟩
 f16:=⟨Tryz.f103.name,by decide,Tryz.func103.trans (congrArg some (by kernel_rfl))⟩
 f17:=⟨Tryz.f186.name,by decide,Tryz.func186.trans (congrArg some (by kernel_rfl))⟩
 f18:=⟨Tryz.f187.name,by decide,Tryz.func187.trans (congrArg some (by kernel_rfl))⟩
 f19:=Tryz.func162.trans (congrArg some (by kernel_rfl))
 f20:=Tryz.func163.trans (congrArg some (by kernel_rfl))
 f30:=⟨Tryz.f228.name,by decide,Tryz.func228.trans (congrArg some (by kernel_rfl))⟩
 f31:=Tryz.func203.trans (congrArg some (by kernel_rfl))
 f32:=Tryz.func204.trans (congrArg some (by kernel_rfl))
 f33:=⟨Tryz.f229.name,by decide,Tryz.func229.trans (congrArg some (by kernel_rfl))⟩
 f34:=⟨Tryz.f230.name,by decide,Tryz.func230.trans (congrArg some (by kernel_rfl))⟩
 f35:=⟨Tryz.f134.name,by decide,Tryz.func134.trans (congrArg some (by kernel_rfl))⟩
 f40:=⟨Tryz.f249.name,by decide,Tryz.func249.trans (congrArg some (by kernel_rfl))⟩
 t0:=Tryz.underlying0
 a0:=Tryz.isAgg0
 z0:=Tryz.sizeOf0
 v0:=Tryz.zeroValue0
 t3:=Tryz.underlying3
 a3:=Tryz.isAgg3
 z3:=Tryz.sizeOf3
 v3:=Tryz.zeroValue3
 t4:=Tryz.underlying4
 a4:=Tryz.isAgg4
 z4:=Tryz.sizeOf4
 v4:=Tryz.zeroValue4
 t5:=Tryz.underlying5
 a5:=Tryz.isAgg5
 z5:=Tryz.sizeOf5
 v5:=Tryz.zeroValue5
 t9:=Tryz.underlying9
 a9:=Tryz.isAgg9
 z9:=Tryz.sizeOf9
 v9:=Tryz.zeroValue9
 t22:=Tryz.underlying51
 a22:=Tryz.isAgg51
 z22:=Tryz.sizeOf51
 v22:=Tryz.zeroValue51
 t23:=Tryz.underlying51
 a23:=Tryz.isAgg51
 z23:=Tryz.sizeOf51
 v23:=Tryz.zeroValue51
 t25:=Tryz.underlying3
 a25:=Tryz.isAgg3
 z25:=Tryz.sizeOf3
 v25:=Tryz.zeroValue3
 t32:=Tryz.underlying185
 a32:=Tryz.isAgg185
 z32:=Tryz.sizeOf185
 v32:=Tryz.zeroValue185
 t35:=Tryz.underlying255
 a35:=Tryz.isAgg255
 z35:=Tryz.sizeOf255
 v35:=Tryz.zeroValue255
 t36:=Tryz.underlying256
 a36:=Tryz.isAgg256
 z36:=Tryz.sizeOf256
 v36:=Tryz.zeroValue256
 t41:=Tryz.underlying125
 a41:=Tryz.isAgg125
 z41:=Tryz.sizeOf125
 v41:=Tryz.zeroValue125
 t44:=Tryz.underlying262
 a44:=Tryz.isAgg262
 z44:=Tryz.sizeOf262
 v44:=Tryz.zeroValue262
 t46:=Tryz.underlying264
 a46:=Tryz.isAgg264
 z46:=Tryz.sizeOf264
 v46:=Tryz.zeroValue264
 t53:=Tryz.underlying286
 a53:=Tryz.isAgg286
 z53:=Tryz.sizeOf286
 v53:=Tryz.zeroValue286
 t57:=Tryz.underlying290
 a57:=Tryz.isAgg290
 z57:=Tryz.sizeOf290
 v57:=Tryz.zeroValue290
 t63:=Tryz.underlying307
 a63:=Tryz.isAgg307
 z63:=Tryz.sizeOf307
 v63:=Tryz.zeroValue307
 t64:=Tryz.underlying308
 a64:=Tryz.isAgg308
 z64:=Tryz.sizeOf308
 v64:=Tryz.zeroValue308 }
end Go.Proofs
namespace Go.Iv
open Go
structure Sq where
 l:List Fm
 r:List Fm
def IsSq (s:Sq)(x:IV):Prop:=∃t xs t' ys,x=.agg [.sl t xs,.sl t' ys]/\okEs t 4/\IsFms s.l xs/\okEs t' 4/\IsFms s.r ys
def IsSqs:List Sq->List IV->Prop
 | [],xs=>xs=[]
 | a::aL,xs=>∃y ys,xs=y::ys/\IsSq a y/\IsSqs aL ys
theorem IsSqs.len:∀ {aL:List Sq}{xs:List IV},IsSqs aL xs->xs.length=aL.length
 | [],xs,h=>by simp only[IsSqs] at h;subst h;rfl
 | a::aL,xs,h=>by
  simp only[IsSqs] at h;obtain⟨y,ys,rfl,_,h⟩:=h;simp[IsSqs.len h]
theorem IsSqs.get:∀ {aL:List Sq}{xs:List IV}{k:Nat}{a:Sq},IsSqs aL xs->aL[k]?=some a->∃x,xs[k]?=some x/\IsSq a x
 | [],xs,k,a,h,hk=>by simp at hk
 | b::aL,xs,k,a,h,hk=>by
  simp only[IsSqs] at h;obtain⟨y,ys,rfl,hy,h⟩:=h;cases k with
  | zero=>simp at hk;subst hk;exact⟨y,rfl,hy⟩
  | succ k=>simpa using IsSqs.get h (by simpa using hk)
def Fm.op:Fm->Nat
 | .mk op _ _ _=>op
def Fm.subs:Fm->List Fm
 | .mk _ _ _ sub=>sub
def Fm.nm:Fm->ByteArray
 | .mk _ n _ _=>n
end Go.Iv
namespace Go.Proofs.Tryz
open Go Go.Iv
set_option maxRecDepth 4000
variable (gl:Nat->Option IV)
theorem zJi (v w:Bool)(n m:ByteArray)(us ws:List Tm)(x y:IV)(hx:IsTm (.mk v n us) x)(hy:IsTm (.mk w m ws) y)
  (IH:∀(t t':Tag) (xs ys:List IV),okEs t 3->okEs t' 3->IsTms us xs->IsTms ws ys->∀st,ICall prog gl 99 [.sl t xs,.sl t' ys] st (λx st'=>x=.raw (.bool (eqB us ws))/\st'=st)) (st:ISt) :
  ICall prog gl 65 [x,y] st (λr st'=>r=.raw (.bool (eqB (Tm.mk v n us) (.mk w m ws)))/\st'=st):=by
 obtain⟨tx,cx,rfl,htx,hcx⟩:=hx.mk;obtain⟨ty,cy,rfl,hty,hcy⟩:=hy.mk;refine iI func65 ?_;by_cases hv:v=w
 ·subst hv;by_cases hnm:n=m
  ·subst hnm;simp only[go_sem,zE,zA,decide_true];refine (IH tx ty cx cy htx hty hcx hcy _).mono ?_;rintro _ _ ⟨rfl,rfl⟩;simp only[go_sem,zE];refine yQ0 ⟨?_,rfl⟩;by_cases hc:us=ws
   ·subst hc;rw[yZ5.2 rfl,yZ5.2 rfl]
   ·rw[yQj.2 hc,yQj.2 (by rintro⟨⟩;exact hc rfl)]
  ·simp only[go_sem,zE,zA,dEf hnm];exact yQ0 ⟨by rw[yQj.2 (by rintro⟨⟩;exact hnm rfl)],rfl⟩
 ·simp only[go_sem,zE,zA,beq_eq_false_iff_ne.2 hv];exact yQ0 ⟨by rw[yQj.2 (by rintro⟨⟩;exact hv rfl)],rfl⟩
theorem zQh (t t':Tag)(us ws:List Tm)(xs ys:List IV)(ht:okEs t 3)(ht':okEs t' 3)(ha:IsTms us xs)(hb:IsTms ws ys)(st:ISt) :
  ICall prog gl 99 [.sl t xs,.sl t' ys] st (λx st'=>x=.raw (.bool (eqB us ws))/\st'=st):=by
 refine iI func99 ?_;simp only[go_sem,zE,reduceCtorEq,ha.len,hb.len];intro hla hlb;refine yZn (λh=>?_) (λh=>?_)
 ·have hne:us≠ws:=by rintro rfl;simp at h
  simp only[go_sem];exact yQ0 ⟨by rw[yQj.2 hne],rfl⟩
 have hlen:us.length=ws.length:=by simp at h;omega
 refine LoopC.ctr us.length (λk fr st' ds=>us.take k=ws.take k/\fr 0=.iv (.sl t xs)/\fr 1=.iv (.sl t' ys)/\fr 5=.iv (.raw (.int .i64 k))/\st'=st/\ds=[]) ?_ ?_ ?_
 ·simp only[go_sem,zE,reduceCtorEq];rfl
 ·rintro k fr st' ds hlt ⟨hn,h0,h1,h5,rfl,rfl⟩;obtain⟨a,hka⟩:=yQ2 hlt;obtain⟨b,hkb⟩:=yQ2 (hlen▸hlt);obtain⟨x,hkx,hx⟩:=ha.get hka;obtain⟨y,hky,hy⟩:=hb.get hkb;obtain⟨v,n,cs⟩:=a;obtain⟨w,m,ds⟩:=b;have hx0:=hx;have hy0:=hy;obtain⟨tx,cx,rfl,htx,hcx⟩:=hx.mk;obtain⟨ty,cy,rfl,hty,hcy⟩:=hy.mk;have hcall:=zJi gl v w n m cs ds _ _ hx0 hy0 (λt1 t2 x1 y1 q1 q2 q3 q4 st1=>zQh t1 t2 cs ds x1 y1 q1 q2 q3 q4 st1) st';simp only[go_sem,zE,zB,zA,reduceCtorEq,h0,h1,h5,ha.len,lt_i hlt,yQ3 ht,yQ3 ht',iNn,hkx,hky,fits];intro _;refine hcall.mono ?_;rintro _ _ ⟨rfl,rfl⟩;by_cases hc:Tm.mk v n cs=.mk w m ds
  ·simp only[go_sem,zE,reduceCtorEq,h0,h1,h5,yQd hlt (show us.length<=281474976710656 by omega),yZ5.2 hc];rw[yQ7 hka,yQ7 hkb,hn,hc]
  ·have hne:us≠ws:=by
    rintro rfl;rw[hka] at hkb;exact hc (Option.some.inj hkb)
   simp only[go_sem,yQj.2 hc];exact yQ0 ⟨by rw[yQj.2 hne],rfl⟩
 ·rintro fr st' ds ⟨hn,h0,h1,h5,rfl,rfl⟩;simp only[go_sem,zE,reduceCtorEq,h0,h5,ha.len,yQm (nLi _)];intro _;have he:us=ws:=by rw[lTl] at hn;rw[hn,hlen,lTl]
  exact yQ0 ⟨by rw[yZ5.2 he],rfl⟩
termination_by SizeOf.sizeOf us
decreasing_by exact xK9 (lMg hka)
def kSF (f:Fm):Prop:=∀(g:Fm) (x y:IV) (_:IsFm f x) (_:IsFm g y) (st:ISt),ICall prog gl 64 [x,y] st (λr st'=>r=.raw (.bool (eqB f g))/\st'=st)
theorem yWe (us ws:List Fm)(IH:∀a∈us,kSF gl a)(t t':Tag)(xs ys:List IV)(ht:okEs t 4)(ht':okEs t' 4)(ha:IsFms us xs)(hb:IsFms ws ys)(st:ISt) :
  ICall prog gl 63 [.sl t xs,.sl t' ys] st (λx st'=>x=.raw (.bool (eqB us ws))/\st'=st):=by
 refine iI func63 ?_;simp only[go_sem,zE,reduceCtorEq,ha.len,hb.len];intro hla hlb;refine yZn (λh=>?_) (λh=>?_)
 ·have hne:us≠ws:=by rintro rfl;simp at h
  simp only[go_sem];exact yQ0 ⟨by rw[yQj.2 hne],rfl⟩
 have hlen:us.length=ws.length:=by simp at h;omega
 refine LoopC.ctr us.length (λk fr st' ds=>us.take k=ws.take k/\fr 0=.iv (.sl t xs)/\fr 1=.iv (.sl t' ys)/\fr 5=.iv (.raw (.int .i64 k))/\st'=st/\ds=[]) ?_ ?_ ?_
 ·simp only[go_sem,zE,reduceCtorEq];rfl
 ·rintro k fr st' ds hlt ⟨hn,h0,h1,h5,rfl,rfl⟩;obtain⟨a,hka⟩:=yQ2 hlt;obtain⟨b,hkb⟩:=yQ2 (hlen▸hlt);obtain⟨x,hkx,hx⟩:=ha.get hka;obtain⟨y,hky,hy⟩:=hb.get hkb;have hcall:=IH a (lMg hka) b x y hx hy st';obtain⟨o,n,cs,sub⟩:=a;obtain⟨o',m,ds,sub'⟩:=b;obtain⟨tx,cx,sx,dx,rfl,_⟩:=hx.mk;obtain⟨ty,cy,sy,dy,rfl,_⟩:=hy.mk;simp only[go_sem,zE,zB,zA,reduceCtorEq,h0,h1,h5,ha.len,lt_i hlt,yQ3 ht,yQ3 ht',iNn,hkx,hky,fits];intro _;refine hcall.mono ?_;rintro _ _ ⟨rfl,rfl⟩;by_cases hc:Fm.mk o n cs sub=.mk o' m ds sub'
  ·simp only[go_sem,zE,reduceCtorEq,h0,h1,h5,yQd hlt (show us.length<=281474976710656 by omega),yZ5.2 hc];rw[yQ7 hka,yQ7 hkb,hn,hc]
  ·have hne:us≠ws:=by
    rintro rfl;rw[hka] at hkb;exact hc (Option.some.inj hkb)
   simp only[go_sem,yQj.2 hc];exact yQ0 ⟨by rw[yQj.2 hne],rfl⟩
 ·rintro fr st' ds ⟨hn,h0,h1,h5,rfl,rfl⟩;simp only[go_sem,zE,reduceCtorEq,h0,h5,ha.len,yQm (nLi _)];intro _;have he:us=ws:=by rw[lTl] at hn;rw[hn,hlen,lTl]
  exact yQ0 ⟨by rw[yZ5.2 he],rfl⟩
theorem zJj (o:Nat)(n:ByteArray)(us:List Tm)(sub:List Fm)(IH:∀a∈sub,kSF gl a):kSF gl (.mk o n us sub):=by
 intro g x y hx hy st;obtain⟨o',m,ws,sub'⟩:=g;obtain⟨tx,cx,sx,dx,rfl,ho,htx,hcx,hsx,hdx⟩:=hx.mk;obtain⟨ty,cy,sy,dy,rfl,ho',hty,hcy,hsy,hdy⟩:=hy.mk;have hcall:=yWe gl sub sub' IH sx sy dx dy hsx hsy hdx hdy;refine iI func64 ?_;by_cases hv:o=o'
 ·subst hv;by_cases hnm:n=m
  ·subst hnm;simp only[go_sem,zE,zA,decide_true];refine (zQh gl tx ty us ws cx cy htx hty hcx hcy _).mono ?_;rintro _ _ ⟨rfl,rfl⟩;by_cases hc:us=ws
   ·subst hc;simp only[go_sem,zE,zA,yZ5.2 rfl];refine (hcall _).mono ?_;rintro _ _ ⟨rfl,rfl⟩;simp only[go_sem,zE];refine yQ0 ⟨?_,rfl⟩;by_cases hd:sub=sub'
    ·subst hd;rw[yZ5.2 rfl,yZ5.2 rfl]
    ·rw[yQj.2 hd,yQj.2 (by rintro⟨⟩;exact hd rfl)]
   ·simp only[go_sem,zE,yQj.2 hc];exact yQ0 ⟨by rw[yQj.2 (by rintro⟨⟩;exact hc rfl)],rfl⟩
  ·simp only[go_sem,zE,zA,dEf hnm,decide_true];exact yQ0 ⟨by rw[yQj.2 (by rintro⟨⟩;exact hnm rfl)],rfl⟩
 ·have hv':decide ((o:Int)=(o':Int))=false:=dEf (by omega);simp only[go_sem,zE,zA,hv'];exact yQ0 ⟨by rw[yQj.2 (by rintro⟨⟩;exact hv rfl)],rfl⟩
theorem yGt:∀(k:Nat)(f:Fm),SizeOf.sizeOf f<k->kSF gl f
 | 0,f,h=>by omega
 | k+1,.mk o n us sub,h=>zJj gl o n us sub (λa ha=>yGt k a (by
   have:=lSm ha;simp only[Fm.mk.sizeOf_spec] at h;omega))
theorem xQm (f:Fm):kSF gl f:=yGt gl _ f (Nat.lt_succ_self _)
theorem zQi (us ws:List Fm)(t t':Tag)(xs ys:List IV)(ht:okEs t 4)(ht':okEs t' 4)(ha:IsFms us xs)(hb:IsFms ws ys)(st:ISt) :
  ICall prog gl 63 [.sl t xs,.sl t' ys] st (λx st'=>x=.raw (.bool (eqB us ws))/\st'=st):=yWe gl us ws (λa _=>xQm gl a) t t' xs ys ht ht' ha hb st
theorem xKz (a b:Sq)(x y:IV)(hx:IsSq a x)(hy:IsSq b y)(st:ISt):ICall prog gl 32 [x,y] st (λr st'=>r=.raw (.bool (eqB a b))/\st'=st):=by
 obtain⟨l,r⟩:=a;obtain⟨l',r'⟩:=b;obtain⟨t1,x1,t2,x2,rfl,h1,h2,h3,h4⟩:=hx;obtain⟨t3,x3,t4,x4,rfl,h5,h6,h7,h8⟩:=hy;refine iI func32 ?_;simp only[go_sem,zE,zA];refine (zQi gl l l' t1 t3 x1 x3 h1 h5 h2 h6 _).mono ?_;rintro _ _ ⟨rfl,rfl⟩;by_cases hc:l=l'
 ·subst hc;simp only[go_sem,zE,zA,yZ5.2 rfl];refine (zQi gl r r' t2 t4 x2 x4 h3 h7 h4 h8 _).mono ?_;rintro _ _ ⟨rfl,rfl⟩;simp only[go_sem,zE];refine yQ0 ⟨?_,rfl⟩;by_cases hd:r=r'
  ·subst hd;rw[yZ5.2 rfl,yZ5.2 rfl]
  ·rw[yQj.2 hd,yQj.2 (by rintro⟨⟩;exact hd rfl)]
 ·simp only[go_sem,zE,yQj.2 hc];exact yQ0 ⟨by rw[yQj.2 (by rintro⟨⟩;exact hc rfl)],rfl⟩
def yQh (l:List Nat):List IV:=l.map λ(n:Nat)=>.raw (.int .i64 (n:Int))
end Go.Proofs.Tryz
namespace Go.Proofs.Tryz
set_option maxRecDepth 4000
open Go Go.Iv Go.Sort
open Go.RowKit (Below)
variable (gl:Nat->Option IV)
theorem xKm {ys:List Int}{l:List Nat}(h:ys.Perm (l.map λ(n:Nat)=>(n:Int))):∃m:List Nat,ys=m.map (λ(n:Nat)=>(n:Int))/\m.Perm l:=by
 refine⟨ys.map Int.toNat,?_,?_⟩
 ·rw[List.map_map];refine (List.map_id ys).symm.trans (List.map_congr_left λy hy=>?_);obtain⟨n,_,rfl⟩:=List.mem_map.1 (h.mem_iff.1 hy);rfl
 ·have:=h.map Int.toNat;rw[List.map_map] at this;have e:(Int.toNat ∘ λ(n:Nat)=>(n:Int))=id:=by funext n;rfl
  rwa [e,List.map_id] at this
theorem zGy (T:Gt gl)(l:List Nat)(rest:List IV)(b cap:Nat)(st:ISt)(hlen:l.length<=1099511627776)(hb:st b=some (.box (yQh l++rest))) :
  ICall prog gl 106 [.raw (.slice (some ⟨b,0,none⟩) l.length cap)] st
   (λr st'=>r=.tup []/\∃m:List Nat,m.Perm l/\m.Pairwise (λx y=>x<=y)/\st'=st.put b (some (.box (yQh m++rest)))):=by
 intro B X rs hg hst hv;subst hst;obtain⟨r0,rfl⟩:∃r0,rs=[r0]:=by
  match rs,hv with
  | [a],_=>exact⟨a,rfl⟩
  | [],hv=>cases hv.1
  | _::_::_,hv=>cases hv.1
 obtain rfl:=V.raw_inv (hv.2 0 r0 _ rfl rfl);obtain⟨hL,c,Ty,hh,hvl⟩:=hg.ok b _ hb;have hblk:b<X.w.heap.size:=hg.lt hb;have hcs:c.toList.length=l.length+rest.length:=by
  have:=hvl.1;rw[lLa,yQh,List.length_map] at this;exact this
 have hget:∀j,j<l.length->c[j]?=some (.int .i64 ((l[j]?.getD 0:Nat):Int)):=λj hj=>by
  obtain⟨n,hn⟩:=yQ2 hj;have h1:(yQh l++rest)[j]?=some (.raw (.int .i64 (n:Int))):=by
   rw[List.getElem?_append_left (by rw[yQh,List.length_map];exact hj),yQh,List.getElem?_map,hn];rfl
  obtain⟨r,hr,hrv⟩:=VL.get hvl h1;rw[V.raw_inv hrv,Array.getElem?_toList] at hr;rw[hr,hn];rfl
 let zs:List Int:=l.map λ(n:Nat)=>(n:Int)
 have hH:Holds (Value.int .i64) X.w b 0 zs.toArray:=by
  intro j hj;have hj':j<l.length:=by simpa[zs] using hj
  obtain⟨n,hn⟩:=yQ2 hj';refine⟨?_,?_⟩
  ·rw[Nat.zero_add,yQz hh,Array.getElem?_toList,hget j hj',hn];have:(zs.toArray[j]!)=(n:Int):=by
    rw[getElem!_pos zs.toArray j hj];simp only[zs,List.getElem_toArray,List.getElem_map];rw[(lGs hn).2]
   rw[this];rfl
  ·simp only[World.frozen?,hh];simp
 have hcon:=AnyM.slices_Sort_int Tryz.sortIL b 0 cap zs X.w hH hblk (by simp[zs];omega);have harr:(⟨[.slice (some ⟨b,0,none⟩) l.length cap]⟩:Array Value)=#[.slice (some ⟨b,0,none⟩) zs.length cap]:=by simp[zs]
 rw[harr];refine Calls.mono hcon ?_;rintro e w' ⟨rfl,n,os,rfl⟩;obtain⟨m,hm1,hm2⟩:=xKm (l:=l) (List.mergeSort_perm zs λx y=>decide (x<=y));have hsrt:m.Pairwise (λx y=>x<=y):=by
  have:=List.pairwise_mergeSort (le:=λx y:Int=>decide (x<=y)) (λa b c h1 h2=>by simp at h1 h2 ⊢;omega) (λa b=>by simp;omega) zs;rw[hm1,List.pairwise_map] at this;exact this.imp λh=>by simpa using h
 have hml:m.length=l.length:=hm2.length_eq
 let cs':Array Value:=putCells (Value.int .i64) 0 (zs.mergeSort λx y=>decide (x<=y)).toArray c
 have hsz:cs'.size=c.size:=by simp[cs',putCells]
 have hcl:cs'.toList=(m.map λ(n:Nat)=>Value.int .i64 (n:Int))++c.toList.drop l.length:=by
  apply List.ext_getElem?;intro i;have hzl:(zs.mergeSort λx y=>decide (x<=y)).toArray.size=l.length:=by simp[zs]
  show (putCells (Value.int .i64) 0 _ c).toList[i]?=_;unfold putCells;rw[Array.getElem?_toList,Array.getElem?_mapIdx];by_cases hi:i<l.length
  ·rw[List.getElem?_append_left (by rw[List.length_map,hml];exact hi),List.getElem?_map];have hic:i<c.size:=by rw[<- Array.length_toList];omega
   rw[Array.getElem?_eq_getElem hic];simp only[Option.map_some,Nat.zero_add,Nat.zero_le,true_and,Nat.sub_zero];rw[if_pos (by omega),hm1];have hmi:i<m.length:=by omega
   rw[List.getElem?_eq_getElem hmi];simp only[Option.map_some];rw[getElem!_pos _ i (by simpa using hmi)];simp
  ·rw[List.getElem?_append_right (by rw[List.length_map,hml];omega),List.getElem?_drop,List.length_map,hml,Array.getElem?_toList];rw[show l.length+(i-l.length)=i by omega];cases hc:c[i]? with
   | none=>rfl
   | some v =>
    simp only[Option.map_some,Nat.zero_add,Nat.zero_le,true_and];rw[if_neg (by omega)]
 have hkeep:∀i,i<X.L b->cs'[i]?=c[i]?:=λi hi=>by rw[hL] at hi;omega
 have hnew:VL B X.L X.w cs'.toList (yQh m++rest):=by
  rw[hcl];refine VL.append ⟨by simp[yQh],λi r x hr hx=>?_⟩ ?_
  ·rw[yQh,List.getElem?_map] at hx;rw[List.getElem?_map] at hr;cases hq:m[i]? with
   | none=>rw[hq] at hr;cases hr
   | some k=>rw[hq] at hr hx;cases hr;cases hx;exact .raw _ trivial
  ·have:=hvl.drop l.length
   rwa [List.drop_left' (by rw[yQh,List.length_map])] at this
 have hrow:=hg.row (cs':=cs') (n:=0) (so:=some (.box (yQh m++rest))) hh hsz (by omega) hkeep (λi hi=>by
  cases hi;refine⟨by simp[WS.row],_,_,setRow_heap X.w b c cs' Ty (0,0) hh,?_⟩;exact⟨hnew.1,λi r x hr hx=>yUg hh hsz (by omega) hkeep (hnew.2 i r x hr hx)⟩)
 have hxr:Ext X (X.row b cs' 0 (some (.box (yQh m++rest)))):=(Ext.refl X).row hh hsz (by omega) hkeep (.inr (by rw[hb];simp));have hw:(putRow (Value.int .i64) (Sort.ahead X.w n) b 0 (zs.mergeSort λx y=>decide (x<=y)).toArray)=(X.w.setRow b cs').drewN n:=by
  unfold putRow mapBlock World.setRow Sort.ahead World.drewN;simp only;congr 1;apply Array.ext_getElem?;intro j;by_cases hj:j=b
  ·subst hj;rw[Array.getElem?_modify,if_pos rfl,hh];have:=setRow_heap X.w j c cs' Ty (0,0) hh;unfold World.setRow at this;rw[this];rfl
  ·have:=setRow_other X.w b j cs' hj;unfold World.setRow at this;rw[this,Array.getElem?_modify,if_neg (λh=>hj h.symm)]
 have hb2:Below (X.row b cs' 0 (some (.box (yQh m++rest)))).w.heap.size (X.row b cs' 0 (some (.box (yQh m++rest)))).w (grow ((X.row b cs' 0 (some (.box (yQh m++rest)))).w.drewN n) os):=⟨rfl,rfl,rfl,by simp[grow,World.drewN],λj hj=>by
  show ((X.row b cs' 0 (some (.box (yQh m++rest)))).w.heap++os)[j]?=_;rw[Array.getElem?_append_left hj]⟩
 rw[hw];exact⟨_,rfl,{ X.row b cs' 0 (some (.box (yQh m++rest))) with w:=grow ((X.row b cs' 0 (some (.box (yQh m++rest)))).w.drewN n) os },.tup [],rfl,zKu hrow hb2 T.some,hxr.trans (yWn hrow hb2),.tup [] [] rfl (λi r c h=>by simp at h),rfl,m,hm2,hsrt,rfl⟩
theorem zQn (t:Tag)(ht:t.cap=.nil)(st:ISt):ICall prog gl 106 [.sl t []] st (λr st'=>r=.tup []/\st'=st):=by
 intro B X rs hg hst hv;obtain⟨r0,rfl⟩:∃r0,rs=[r0]:=by
  match rs,hv with
  | [a],_=>exact⟨a,rfl⟩
  | [],hv=>cases hv.1
  | _::_::_,hv=>cases hv.1
 obtain⟨p,cap,rfl⟩:∃p cap,r0=.slice p 0 cap:=by
  have:=hv.2 0 r0 _ rfl rfl;obtain⟨a,cap,_,_,rfl,_⟩:=V.sl_inv this;exact⟨a,cap,rfl⟩
 refine Calls.mono (AnyM.slices_Sort_int_none Tryz.sortIL p cap X.w) ?_;rintro e w' ⟨rfl,rfl⟩;exact⟨_,rfl,X,.tup [],rfl,hg,Ext.refl X,.tup [] [] rfl (λi r c h=>by simp at h),rfl,hst⟩
end Go.Proofs.Tryz
namespace Go.Iv
open Go
section
variable {P:Program}{gl:Nat->Option IV}{f:FuncId}{args args':List IV}{st:ISt}
theorem wJs {X X':WS}{g:Nat}{o:IObj}(h:Ext X X')(h0:X.st g=none)(h1:X'.st g=some o):X.w.heap.size<=g:=by
 by_cases hlt:g<X.w.heap.size
 ·have:=h.dom g hlt h0;grind
 ·omega
theorem zVn {X':WS}{S:ISt}{g:Nat}{cs:List IV}(h0:S g=none)(hst':X'.st=S.put g (some (.box cs))):LendOk X'.st (ISt.put (λ_=>none) g (some (.box cs))) S:=by
 refine⟨λb o hb=>?_,λb o hb=>?_,λb cs' hb=>?_⟩
 ·rw[ISt.put_apply] at hb;split at hb
  ·rename_i hbg;subst hbg;cases hb;rw[hst'];exact ISt.put_same ..
  ·cases hb
 ·rw[hst',ISt.put_apply];grind
 ·rw[ISt.put_apply] at hb;grind
theorem wJr {C:Cx}{X':WS}{S:ISt}{g cap es:Nat}{cs zs:List IV}(h2:Good C X')(h0:S g=none)(hst':X'.st=S.put g (some (.box cs)))(hB:C.B<=g)(hn:zs.length<=140737488355328)(hcap:zs.length<=cap)(hroom:cap*es<=cs.length)
  (htk:cs.take (zs.length*es)=zs.flatMap IV.cells) (hz:∀z∈zs,z.cells.length=es):C.v (X'.lendS (ISt.put (λ_=>none) g (some (.box cs))) S) (.slice (some ⟨g,0,none⟩) zs.length cap) (.sl ⟨true,.app g,es⟩ zs):=by
 have hgs:X'.st g=some (.box cs):=by rw[hst'];exact ISt.put_same ..
 have hex:=h2.lendS_ext (zVn h0 hst');have hs1:(ISt.put (λ_=>none) g (some (.box cs))) g=some (.box cs):=ISt.put_same ..;obtain⟨hL0,c,T,hh,hvl⟩:=h2.ok g _ hgs;have hcl:c.toList.length=cs.length:=hvl.1;have hflat:(zs.flatMap IV.cells).length=zs.length*es:=yQo zs hz;have hle:zs.length*es<=cs.length:=Nat.le_trans (Nat.mul_le_mul_right _ hcap) hroom;refine V.sl (some ⟨g,0,none⟩) cap ⟨true,.app g,es⟩ zs T (c.toList.take (zs.length*es)) rfl hn hcap hz ?_ (λg' hg'=>?_) (λ_ ad had=>?_) (λ_=>⟨_,rfl,rfl,?_,λi r hr=>?_⟩) λi r z hr hz=>?_
 ·grind
 ·cases hg';refine⟨T,c.size,?_,?_⟩
  ·simp[shq,WS.lendS,hh]
  ·grind
 ·cases had;refine⟨hB,by simp,?_⟩;simp[ety,shq,WS.lendS,hh]
 ·show 0+(c.toList.take (zs.length*es)).length<=(X'.lendS _ S).L g;rw[zVx hs1,List.length_take];omega
 ·show X'.w.cell? _=_;rw[Nat.zero_add,yQz hh];grind
 ·rw[<- htk,List.getElem?_take] at hz;rw[List.getElem?_take] at hr;split at hr
  ·rename_i hi;rw[if_pos hi] at hz;exact hex.v (hvl.2 i r z hr hz)
  ·cases hr
theorem ICall.fixL {K:IV->ISt->Prop}(h:ICall P gl f args st (λy st'=>K y st'\/∃g es zs,st g=none/\y=.raw (.slice (some ⟨g,0,none⟩) zs.length zs.length)/\st'=st.put g (some (.box (zs.flatMap IV.cells))) /\
   zs.length<=140737488355328/\(∀z∈zs,z.cells.length=es)/\K (.sl ⟨true,.app g,es⟩ zs) st)):ICall P gl f args st K:=by
 intro B X rs hg hst hv;subst hst;refine (h B X rs hg rfl hv).mono ?_;rintro e w' ⟨v,rfl,X',y,rfl,h2,h3,h4,hK|⟨g,es,zs,h0,rfl,hst',hn,hz,hK⟩⟩
 ·exact⟨v,rfl,X',y,rfl,h2,h3,h4,hK⟩
 have hgn:=wJs h3 h0 (by rw[hst'];exact ISt.put_same ..);have hk:=zVn h0 hst';have hfl:=yQo zs hz;obtain rfl:=V.raw_inv h4;exact⟨_,rfl,X'.lendS _ X.st,_,rfl,h2.lendS hk,h3.trans (h2.lendS_ext hk),wJr h2 h0 hst' (Nat.le_trans hg.B hgn) hn (Nat.le_refl _) (by rw[hfl];exact Nat.le_refl _) (by rw[<- hfl,lTl]) hz,hK⟩
end
end Go.Iv
namespace Go.Proofs.Tryz
open Go Go.Iv
set_option maxRecDepth 4000
variable (gl:Nat->Option IV)
theorem IsFmD.aggs {f:Fm}{r:IV}(h:IsFmD f r):∃o n t x t' x',r=.agg [.raw (.int .u8 o),.raw (.string n),.sl t x,.sl t' x']:=by
 obtain⟨o,n,us,sub⟩:=f;obtain⟨t,xs,t',ys,rfl,_⟩:=h.mk;exact⟨_,_,_,_,_,_,rfl⟩
end Go.Proofs.Tryz
namespace Go.Proofs.Tryz
open Go Go.Iv Go.Shelf Go.RowKit
set_option maxRecDepth 4000
variable (gl:Nat->Option IV)
theorem zQ7 (a b:ByteArray)(w:World):Calls prog 165 #[.string a,.string b] w λe w'=>e=.returned (.int .i64 (Lib.compareBytes a.data.toList b.data.toList))/\w'=w:=by
 have t9:prog.underlying 9=some .string:=by kernel_rfl
 have a9:∀w,(isAgg 9).run prog w=.ok false w:=run_isAgg_plain t9 rfl;have t3:prog.underlying 3=some (.int .i64):=by kernel_rfl
 have a3:∀w,(isAgg 3).run prog w=.ok false w:=run_isAgg_plain t3 rfl
 go_enter func165,(show _=_ from rfl)
 go_wp2
 rw[run_callFunc_extern func207 (by kernel_rfl) (by kernel_rfl) (by kernel_rfl) (e:=Extern.BytealgCompare.compare) (by kernel_rfl),Lib.run_compareString];simp only[Result.andThen];rw[Oper.upon_value]
 go_wp2
 go_ret
 exact⟨rfl,rfl⟩
theorem yWj:∀x y:List UInt8,Lib.compareBytes x y=if Op.bytesLess x y=true then -1 else if Op.bytesLess y x=true then 1 else 0
 | [],[]=>by simp[Lib.compareBytes,Op.bytesLess]
 | [],_::_=>by simp[Lib.compareBytes,Op.bytesLess]
 | _::_,[]=>by simp[Lib.compareBytes,Op.bytesLess]
 | a::x,b::y=>by
  have ih:=yWj x y;unfold Lib.compareBytes Op.bytesLess;by_cases h1:a<b
  ·have h2:¬ b<a:=λh=>UInt8.lt_irrefl _ (UInt8.lt_trans h1 h);simp[h1]
  ·by_cases h2:b<a
   ·have h3:a≠b:=by rintro rfl;exact UInt8.lt_irrefl _ h2
    simp[h1,h2,h3]
   ·have:a=b:=UInt8.le_antisymm (UInt8.not_lt.1 h2) (UInt8.not_lt.1 h1);subst this;simp[h1,ih]
theorem zJ8 (a b:ByteArray)(st:ISt):ICall prog gl 165 [.raw (.string a),.raw (.string b)] st (λr st'=>r=.raw (.int .i64 (cmpB a b))/\st'=st):=by
 intro B X rs hg hst hv;have hr:rs=[.string a,.string b]:=by
  match rs,hv with
  | [r,r'],hv=>rw[V.raw_inv (hv.2 0 r _ rfl rfl),V.raw_inv (hv.2 1 r' _ rfl rfl)]
  | [],hv=>cases hv.1
  | [_],hv=>cases hv.1
  | _::_::_::_,hv=>cases hv.1
 subst hr;refine Calls.mono (zQ7 a b X.w) ?_;rintro e w' ⟨rfl,rfl⟩;refine⟨_,rfl,X,.raw (.int .i64 (cmpB a b)),rfl,hg,Ext.refl X,?_,rfl,hst⟩;rw[yWj];exact .raw _ trivial
theorem zJ7 (a b:ByteArray)(st:ISt):ICall prog gl 123 [.raw (.string a),.raw (.string b)] st (λr st'=>r=.raw (.int .i64 (cmpB a b))/\st'=st):=by
 refine iI func123 ?_;simp only[go_sem,zE,zA,reduceCtorEq];refine (zJ8 gl a b _).mono ?_;rintro _ _ ⟨rfl,rfl⟩;simp only[go_sem];exact yQ0 ⟨rfl,rfl⟩
theorem zJr (a:Nat)(st:ISt):ICall prog gl 164 [.raw (.int .u8 a)] st (λr st'=>r=.raw (.bool false)/\st'=st):=by
 refine iI func164 ?_;simp only[go_sem,zE,reduceCtorEq];exact yQ0 ⟨rfl,rfl⟩
theorem xJv (a b:Nat)(st:ISt):ICall prog gl 122 [.raw (.int .u8 a),.raw (.int .u8 b)] st (λr st'=>r=.raw (.int .i64 (cmpN a b))/\st'=st):=by
 refine iI func122 ?_;simp only[go_sem,zA,reduceCtorEq];refine (zJr gl a _).mono ?_;rintro _ _ ⟨rfl,rfl⟩;simp only[go_sem,zE,zA];refine (zJr gl b _).mono ?_;rintro _ _ ⟨rfl,rfl⟩;unfold cmpN;by_cases h1:a<b
 ·simp only[go_sem,zE,reduceCtorEq,lt_i h1];exact yQ0 ⟨by rw[if_pos h1],rfl⟩
 ·by_cases h2:b<a
  ·simp only[go_sem,zE,reduceCtorEq,yQm h1,lt_i h2];exact yQ0 ⟨by rw[if_neg h1,if_pos h2],rfl⟩
  ·simp only[go_sem,zE,reduceCtorEq,yQm h1,yQm h2];exact yQ0 ⟨by rw[if_neg h1,if_neg h2],rfl⟩
theorem xXw (a:Nat)(st:ISt):ICall prog gl 134 [.raw (.int .i64 a)] st (λr st'=>r=.raw (.bool false)/\st'=st):=by
 refine iI func134 ?_;simp only[go_sem,zE,reduceCtorEq];exact yQ0 ⟨rfl,rfl⟩
theorem zW3 (a b:Nat)(st:ISt):ICall prog gl 142 [.raw (.int .i64 a),.raw (.int .i64 b)] st (λr st'=>r=.raw (.int .i64 (cmpN a b))/\st'=st):=by
 refine iI func142 ?_;simp only[go_sem,zA,reduceCtorEq];refine (xXw gl a _).mono ?_;rintro _ _ ⟨rfl,rfl⟩;simp only[go_sem,zE,zA];refine (xXw gl b _).mono ?_;rintro _ _ ⟨rfl,rfl⟩;unfold cmpN;by_cases h1:a<b
 ·simp only[go_sem,zE,reduceCtorEq,lt_i h1];exact yQ0 ⟨by rw[if_pos h1],rfl⟩
 ·by_cases h2:b<a
  ·simp only[go_sem,zE,reduceCtorEq,yQm h1,lt_i h2];exact yQ0 ⟨by rw[if_neg h1,if_pos h2],rfl⟩
  ·simp only[go_sem,zE,reduceCtorEq,yQm h1,yQm h2];exact yQ0 ⟨by rw[if_neg h1,if_neg h2],rfl⟩
theorem wV7 {t:Tm}{x:IV}(h:IsTm t x):∃v n tg xs,x=.agg [.raw (.bool v),.raw (.string n),.sl tg xs]:=by
 obtain⟨v,n,us⟩:=t;obtain⟨tg,xs,rfl,_⟩:=h.mk;exact⟨_,_,_,_,rfl⟩
theorem yGq {α:Type}{f:α->α->Int}{g:List α->List α->Int}(g0:g [] []=0)(g1:∀a b l m,g (a::l) (b::m)=lexI (f a b) (g l m)):∀(l m l' m':List α),l.length=m.length->g (l++l') (m++m')=lexI (g l m) (g l' m')
 | [],[],l',m',_=>by rw[g0];simp[lexI]
 | a::l,b::m,l',m',h=>by
  rw[List.cons_append,List.cons_append,g1,g1,yGq g0 g1 l m l' m' (by simpa using h)];unfold lexI;by_cases h1:f a b=0
  ·simp[h1]
  ·simp[h1]
 | [],_::_,_,_,h=>by simp at h
 | _::_,[],_,_,h=>by simp at h
theorem i0 (x:Int)(h:x=0):decide (x=0)=true:=dEt h
theorem i1 (x:Int)(h:¬ x=0):decide (x=0)=false:=dEf h
def CmpT (a:Tm):Prop:=∀(b:Tm) (x y:IV) (_:IsTm a x) (_:IsTm b y) (st:ISt),ICall prog gl 125 [x,y] st (λr st'=>r=.raw (.int .i64 (yV6 a b))/\st'=st)
def CmpF (a:Fm):Prop:=∀(b:Fm) (x y:IV) (_:IsFm a x) (_:IsFm b y) (st:ISt),ICall prog gl 91 [x,y] st (λr st'=>r=.raw (.int .i64 (yZa a b))/\st'=st)
theorem xJk (us:List Tm)(IH:∀a∈us,CmpT gl a)(ws:List Tm)(t t':Tag)(xs ys:List IV)(ht:okEs t 3)(ht':okEs t' 3)(ha:IsTms us xs)(hb:IsTms ws ys)(st:ISt) :
  ICall prog gl 124 [.sl t xs,.sl t' ys,.fn (.func 125) [] []] st (λr st'=>r=.raw (.int .i64 (lenL yJ8 us ws))/\st'=st):=by
 refine iI func124 ?_;simp only[go_sem,zE,zA,reduceCtorEq,ha.len,hb.len];intro hla hlb;refine (zW3 gl us.length ws.length _).mono ?_;rintro _ st ⟨rfl,rfl⟩;unfold lenL;by_cases h0:cmpN us.length ws.length=0
 ·have hlen:=yZy.1 h0;simp only[go_sem,reduceCtorEq,i0 _ h0,ha.len];intro _;refine LoopC.ctr us.length (λk fr st' ds=>yJ8 (us.take k) (ws.take k)=0/\fr 0=.iv (.sl t xs)/\fr 1=.iv (.sl t' ys)/\fr 2=.iv (.fn (.func 125) [] [])/\fr 19=.iv (.raw (.int .i64 us.length))/\fr 20=.iv (.raw (.int .i64 k))/\st'=st/\ds=[]) ?_ ?_ ?_
  ·simp only[go_sem,zE,reduceCtorEq];exact⟨yJp,rfl⟩
  ·rintro k fr st1 _ hlt ⟨hn,f0,f1,f2,f19,f20,rfl,rfl⟩;obtain⟨a,hka⟩:=yQ2 hlt;obtain⟨b,hkb⟩:=yQ2 (l:=ws) (k:=k) (by omega);obtain⟨x,hkx,hx⟩:=ha.get hka;obtain⟨y,hky,hy⟩:=hb.get hkb;have hcall:=IH a (lMg hka) b x y hx hy st1;have htl:(us.take k).length=(ws.take k).length:=by rw[List.length_take,List.length_take];omega
   obtain⟨x1,x2,x3,x4,rfl⟩:=wV7 hx;obtain⟨y1,y2,y3,y4,rfl⟩:=wV7 hy;simp only[go_sem,zE,zB,zA,reduceCtorEq,f0,f1,f2,f19,f20,lt_i hlt,yQ3 ht,yQ3 ht',iNn,hkx,hky,fits];refine hcall.mono ?_;rintro _ _ ⟨rfl,rfl⟩;by_cases hc:yV6 a b=0
   ·simp only[go_sem,zE,reduceCtorEq,i0 _ hc,f0,f1,f2,f19,f20,yQd hlt (show us.length<=281474976710656 by omega)];rw[yQ7 hka,yQ7 hkb,yGq yJp yJo _ _ _ _ htl,hn,yJo,yJp,hc];simp[lexI]
   ·simp only[go_sem,zE,i1 _ hc];refine yQ0 ⟨?_,rfl⟩;rw[h0];have h2:yJ8 us ws=yV6 a b:=by
     conv=>lhs;rw[<- List.take_append_drop k us,<- List.take_append_drop k ws]
     rw[List.drop_eq_getElem_cons hlt,List.drop_eq_getElem_cons (show k<ws.length by omega),yGq yJp yJo _ _ _ _ htl,hn,yJo,(lGs hka).2,(lGs hkb).2];simp[lexI,hc]
    rw[h2];simp[lexI]
  ·rintro fr st1 _ ⟨hn,f0,f1,f2,f19,f20,rfl,rfl⟩;rw[lTl,show ws.take us.length=ws by rw[hlen,lTl]] at hn;simp only[go_sem,f19,f20,yQm (nLi _)];exact yQ0 ⟨by rw[h0,hn];simp[lexI],rfl⟩
 ·simp only[go_sem,zE,i1 _ h0];exact yQ0 ⟨by simp[lexI,h0],rfl⟩
theorem zGk (v:Bool)(n:ByteArray)(us:List Tm)(IH:∀a∈us,CmpT gl a):CmpT gl (.mk v n us):=by
 rintro⟨w,m,ws⟩ x y hx hy st;obtain⟨tx,cx,rfl,htx,hcx⟩:=hx.mk;obtain⟨ty,cy,rfl,hty,hcy⟩:=hy.mk;have hl:=λst=>xJk gl us IH ws tx ty cx cy htx hty hcx hcy st;simp only[yV6];refine iI func125 ?_;by_cases hv:v=w
 ·subst hv;simp only[go_sem,zE,zA,beq_self_eq_true];refine (zJ7 gl n m _).mono ?_;rintro _ _ ⟨rfl,rfl⟩;by_cases h0:cmpB n m=0
  ·simp only[go_sem,zE,zA,i0 _ h0];refine (hl _).mono ?_;rintro _ _ ⟨rfl,rfl⟩;simp only[go_sem];exact yQ0 ⟨by simp[lexI,h0,lenL],rfl⟩
  ·simp only[go_sem,zE,i1 _ h0];exact yQ0 ⟨by simp[lexI,h0],rfl⟩
 ·cases v<;>cases w<;>first|exact absurd rfl hv|skip
  all_goals
   simp only[go_sem,zE,reduceCtorEq,beq_eq_false_iff_ne.2 hv];exact yQ0 ⟨by simp,rfl⟩
theorem zXp:∀(k:Nat)(t:Tm),SizeOf.sizeOf t<k->CmpT gl t
 | 0,t,h=>by omega
 | k+1,.mk v n us,h=>zGk gl v n us (λa ha=>zXp k a (by
   have:=lSm ha;simp at h;omega))
theorem xUu (t:Tm):CmpT gl t:=zXp gl _ t (Nat.lt_succ_self _)
theorem wXt (us:List Fm)(IH:∀a∈us,CmpF gl a)(ws:List Fm)(t t':Tag)(xs ys:List IV)(ht:okEs t 4)(ht':okEs t' 4)(ha:IsFms us xs)(hb:IsFms ws ys)(st:ISt) :
  ICall prog gl 126 [.sl t xs,.sl t' ys,.fn (.func 91) [] []] st (λr st'=>r=.raw (.int .i64 (lenL yWl us ws))/\st'=st):=by
 refine iI func126 ?_;simp only[go_sem,zE,zA,reduceCtorEq,ha.len,hb.len];intro hla hlb;refine (zW3 gl us.length ws.length _).mono ?_;rintro _ st ⟨rfl,rfl⟩;unfold lenL;by_cases h0:cmpN us.length ws.length=0
 ·have hlen:=yZy.1 h0;simp only[go_sem,reduceCtorEq,i0 _ h0,ha.len];intro _;refine LoopC.ctr us.length (λk fr st' ds=>yWl (us.take k) (ws.take k)=0/\fr 0=.iv (.sl t xs)/\fr 1=.iv (.sl t' ys)/\fr 2=.iv (.fn (.func 91) [] [])/\fr 19=.iv (.raw (.int .i64 us.length))/\fr 20=.iv (.raw (.int .i64 k))/\st'=st/\ds=[]) ?_ ?_ ?_
  ·simp only[go_sem,zE,reduceCtorEq];exact⟨yG2,rfl⟩
  ·rintro k fr st1 _ hlt ⟨hn,f0,f1,f2,f19,f20,rfl,rfl⟩;obtain⟨a,hka⟩:=yQ2 hlt;obtain⟨b,hkb⟩:=yQ2 (l:=ws) (k:=k) (by omega);obtain⟨x,hkx,hx⟩:=ha.get hka;obtain⟨y,hky,hy⟩:=hb.get hkb;have hcall:=IH a (lMg hka) b x y hx hy st1;have htl:(us.take k).length=(ws.take k).length:=by rw[List.length_take,List.length_take];omega
   obtain⟨x1,x2,x3,x4,x5,x6,rfl⟩:=hx.agg;obtain⟨y1,y2,y3,y4,y5,y6,rfl⟩:=hy.agg;simp only[go_sem,zE,zB,zA,reduceCtorEq,f0,f1,f2,f19,f20,lt_i hlt,yQ3 ht,yQ3 ht',iNn,hkx,hky,fits];refine hcall.mono ?_;rintro _ _ ⟨rfl,rfl⟩;by_cases hc:yZa a b=0
   ·simp only[go_sem,zE,reduceCtorEq,i0 _ hc,f0,f1,f2,f19,f20,yQd hlt (show us.length<=281474976710656 by omega)];rw[yQ7 hka,yQ7 hkb,yGq yG2 yG1 _ _ _ _ htl,hn,yG1,yG2,hc];simp[lexI]
   ·simp only[go_sem,zE,i1 _ hc];refine yQ0 ⟨?_,rfl⟩;rw[h0];have h2:yWl us ws=yZa a b:=by
     conv=>lhs;rw[<- List.take_append_drop k us,<- List.take_append_drop k ws]
     rw[List.drop_eq_getElem_cons hlt,List.drop_eq_getElem_cons (show k<ws.length by omega),yGq yG2 yG1 _ _ _ _ htl,hn,yG1,(lGs hka).2,(lGs hkb).2];simp[lexI,hc]
    rw[h2];simp[lexI]
  ·rintro fr st1 _ ⟨hn,f0,f1,f2,f19,f20,rfl,rfl⟩;rw[lTl,show ws.take us.length=ws by rw[hlen,lTl]] at hn;simp only[go_sem,f19,f20,yQm (nLi _)];exact yQ0 ⟨by rw[h0,hn];simp[lexI],rfl⟩
 ·simp only[go_sem,zE,i1 _ h0];exact yQ0 ⟨by simp[lexI,h0],rfl⟩
theorem zGm (o:Nat)(n:ByteArray)(us:List Tm)(sub:List Fm)(IH:∀a∈sub,CmpF gl a):CmpF gl (.mk o n us sub):=by
 rintro⟨w,m,ws,sub'⟩ x y hx hy st;obtain⟨t1,x1,t2,x2,rfl,_,e1,i1',e2,i2⟩:=hx.mk;obtain⟨t3,x3,t4,x4,rfl,_,e3,i3,e4,i4⟩:=hy.mk;have hl1:=λst=>xJk gl us (λa _=>xUu gl a) ws t1 t3 x1 x3 e1 e3 i1' i3 st;have hl2:=λst=>wXt gl sub IH sub' t2 t4 x2 x4 e2 e4 i2 i4 st;simp only[yZa];refine iI func91 ?_;simp only[go_sem,zE,zA];refine (xJv gl o w _).mono ?_;rintro _ _ ⟨rfl,rfl⟩;by_cases h0:cmpN o w=0
 ·simp only[go_sem,zE,zA,i0 _ h0];refine (zJ7 gl n m _).mono ?_;rintro _ _ ⟨rfl,rfl⟩;by_cases h1:cmpB n m=0
  ·simp only[go_sem,zE,zA,i0 _ h1];refine (hl1 _).mono ?_;rintro _ _ ⟨rfl,rfl⟩;by_cases h2:lenL yJ8 us ws=0
   ·simp only[go_sem,zE,zA,i0 _ h2];refine (hl2 _).mono ?_;rintro _ _ ⟨rfl,rfl⟩;simp only[go_sem];refine yQ0 ⟨?_,rfl⟩;unfold lenL at h2 ⊢;rw[h0,h1,h2];simp[lexI]
   ·simp only[go_sem,zE,i1 _ h2];refine yQ0 ⟨?_,rfl⟩;unfold lenL at h2 ⊢;rw[h0,h1];generalize lexI (cmpN us.length ws.length) (yJ8 us ws)=q at h2 ⊢;simp[lexI,h2]
  ·simp only[go_sem,zE,i1 _ h1];exact yQ0 ⟨by rw[h0];simp[lexI,h1],rfl⟩
 ·simp only[go_sem,zE,i1 _ h0];exact yQ0 ⟨by simp[lexI,h0],rfl⟩
theorem zXr:∀(k:Nat)(t:Fm),SizeOf.sizeOf t<k->CmpF gl t
 | 0,t,h=>by omega
 | k+1,.mk o n us sub,h=>zGm gl o n us sub (λa ha=>zXr k a (by
   have:=lSm ha;simp at h;omega))
theorem zXq (t:Fm):CmpF gl t:=zXr gl _ t (Nat.lt_succ_self _)
end Go.Proofs.Tryz
namespace Go.Proofs.Tryz
open Go Go.Iv
set_option maxRecDepth 4000
variable (gl:Nat->Option IV)
def sCT (us:List Tm):Prop:=∀(tg:Tag) (xs:List IV) (_:okEs tg 3) (_:IsTms us xs) (_:yQg us<=1099511627776) (st:ISt),
 ICall prog gl 75 [.sl tg xs,.fn (.func 76) [] []] st (λr st'=>∃tg' ys,r=.sl tg' ys/\okEs tg' 3/\appT us.length tg'/\IsTmsD us ys/\st'=st)
theorem zJe (v:Bool)(n:ByteArray)(us:List Tm)(IH:sCT gl us)(x:IV)(hx:IsTm (.mk v n us) x)(hs:(Tm.mk v n us).size<=1099511627776)(st:ISt) :
  ICall prog gl 76 [x] st (λr st'=>IsTmD (.mk v n us) r/\st'=st):=by
 obtain⟨tx,cx,rfl,htx,hcx⟩:=hx.mk;simp only[Tm.size] at hs;have hcall:=IH tx cx htx hcx (by omega) st;refine iI func76 ?_;simp only[go_sem,zE,zA];refine hcall.mono ?_;rintro _ _ ⟨tg',ys,rfl,he,ha,hys,rfl⟩;simp only[go_sem,zE,zA,zL,fits];exact yQ0 ⟨IsTmD.intro he ha hys,rfl⟩
theorem zZq (us:List Tm)(IH:∀v n l,Tm.mk v n l∈us->sCT gl l):sCT gl us:=by
 intro tg xs htg hxs hsz st;have hlsz:=yK6 us;refine iI func75 ?_;simp only[go_sem,reduceCtorEq,hxs.len];intro _;refine yZn (λh=>?_) (λh=>?_)
 ·obtain rfl:us=[]:=List.eq_nil_of_length_eq_zero (by simpa using h);simp only[go_sem];exact yQ0 ⟨_,_,rfl,.inl rfl,.inl rfl,IsTmsD.nil,rfl⟩
 have hpos:0<us.length:=Nat.pos_of_ne_zero λh0=>by simp[h0] at h
 simp only[go_sem,reduceCtorEq,hxs.len];intro _;refine yZ1 ⟨iNn _,by omega,by omega⟩ λg=>yQ9 λhg=>?_;intro _;refine LoopC.ctr us.length (λk fr st' ds=>(∃tg' ys,fr 5=.iv (.sl tg' ys)/\IsTmsD (us.take k) ys/\appT us.length tg'/\own st' tg' k 3 st/\subSt st st')/\fr 1=.iv (.fn (.func 76) [] []) /\
  fr 14=.iv (.sl tg xs)/\fr 15=.iv (.raw (.int .i64 us.length))/\fr 16=.iv (.raw (.int .i64 k))/\ds=[]) ?_ ?_ ?_
 ·simp only[go_sem,zE];exact⟨⟨_,_,rfl,IsTmsD.nil,.inr ⟨hpos,rfl,g,rfl⟩,.inr (.inr ⟨g,rfl,ISt.put_same _ _ _,hg⟩),yQe (subSt.refl _) hg⟩,rfl⟩
 ·rintro k fr st1 _ hlt ⟨⟨tg',ys,f5,hys,hap,hown,hsub⟩,f1,f14,f15,f16,rfl⟩;obtain⟨a,ha⟩:=yQ2 hlt;obtain⟨x,hkx,hx⟩:=hxs.get ha;obtain⟨h1,h2⟩:=yXj ha;have hlen2:ys.length=k:=by rw[hys.len,List.length_take];omega
  obtain⟨v2,n2,m⟩:=a;have hcall:=zJe gl v2 n2 m (IH _ _ _ (lMg ha)) x hx (by omega) st1;obtain⟨tx,cx,rfl,htx,hcx⟩:=hx.mk;simp only[go_sem,zE,zB,zA,zL,f1,f5,f14,f15,f16,lt_i hlt,yQ3 htg,iNn,hkx,fits];refine hcall.mono ?_;rintro r _ ⟨hr,rfl⟩;have hn:IsTmsD (us.take (k+1)) (ys++[r]):=by
   rw[yQ7 ha];exact hys.append (IsTmsD.one hr)
  obtain⟨t3,x3,rfl,_⟩:=IsTmD.mk hr;simp only[go_sem,zE,zA,zM,zL,fits,yQ1];refine yKb hown hlen2 hsub rfl (by simp[fits,IV.one]) (by simp only;omega) (by omega) λtg2 st4 hown2 hsub4 _ hap2=>?_;simp only[go_sem,zE,f1,f14,f15,f16,yQd hlt (show us.length<=281474976710656 by omega)];exact⟨tg2,_,rfl,hn,hap2.pos hpos,hown2,hsub4⟩
 ·rintro fr st1 _ ⟨⟨tg',ys,f5,hys,hap,hown,hsub⟩,f1,f14,f15,f16,rfl⟩;rw[lTl] at hys;simp only[go_sem,zE,f5,f15,f16,yQm (nLi _)];exact yQs (st':=st) hsub ⟨tg',ys,rfl,hown.es,hap,hys,rfl⟩
theorem yYm:∀(k:Nat)(us:List Tm),SizeOf.sizeOf us<k->sCT gl us
 | 0,f,h=>by omega
 | k+1,us,h=>zZq gl us (λv n l ha=>yYm k l (by
   have:=lSm ha;simp at this;omega))
theorem zYe (us:List Tm):sCT gl us:=yYm gl _ us (Nat.lt_succ_self _)
def sCF (f:Fm):Prop:=∀(x:IV) (_:IsFm f x) (_:f.size<=1099511627776) (st:ISt),ICall prog gl 41 [x] st (λr st'=>IsFmD f r/\st'=st)
theorem zZr (us:List Fm)(IH:∀a∈us,sCF gl a)(tg:Tag)(xs:List IV)(htg:okEs tg 4)(hxs:IsFms us xs)(hsz:yQb us<=1099511627776)(st:ISt) :
  ICall prog gl 77 [.sl tg xs,.fn (.func 41) [] []] st (λr st'=>∃tg' ys,r=.sl tg' ys/\okEs tg' 4/\appT us.length tg'/\IsFmsD us ys/\st'=st):=by
 have hlsz:=yXa us;refine iI func77 ?_;simp only[go_sem,reduceCtorEq,hxs.len];intro _;refine yZn (λh=>?_) (λh=>?_)
 ·obtain rfl:us=[]:=List.eq_nil_of_length_eq_zero (by simpa using h);simp only[go_sem];exact yQ0 ⟨_,_,rfl,.inl rfl,.inl rfl,IsFmsD.nil,rfl⟩
 have hpos:0<us.length:=Nat.pos_of_ne_zero λh0=>by simp[h0] at h
 simp only[go_sem,reduceCtorEq,hxs.len];intro _;refine yZ1 ⟨iNn _,by omega,by omega⟩ λg=>yQ9 λhg=>?_;intro _;refine LoopC.ctr us.length (λk fr st' ds=>(∃tg' ys,fr 5=.iv (.sl tg' ys)/\IsFmsD (us.take k) ys/\appT us.length tg'/\own st' tg' k 4 st/\subSt st st')/\fr 1=.iv (.fn (.func 41) [] []) /\
  fr 14=.iv (.sl tg xs)/\fr 15=.iv (.raw (.int .i64 us.length))/\fr 16=.iv (.raw (.int .i64 k))/\ds=[]) ?_ ?_ ?_
 ·simp only[go_sem,zE];exact⟨⟨_,_,rfl,IsFmsD.nil,.inr ⟨hpos,rfl,g,rfl⟩,.inr (.inr ⟨g,rfl,ISt.put_same _ _ _,hg⟩),yQe (subSt.refl _) hg⟩,rfl⟩
 ·rintro k fr st1 _ hlt ⟨⟨tg',ys,f5,hys,hap,hown,hsub⟩,f1,f14,f15,f16,rfl⟩;obtain⟨a,ha⟩:=yQ2 hlt;obtain⟨x,hkx,hx⟩:=hxs.get ha;obtain⟨h1,h2⟩:=yZ4 ha;have hlen2:ys.length=k:=by rw[hys.len,List.length_take];omega
  have hcall:=IH a (lMg ha) x hx (by omega) st1;obtain⟨o5,n5,t5,x5,t6,x6,rfl⟩:=hx.agg;simp only[go_sem,zE,zB,zA,zL,f1,f5,f14,f15,f16,lt_i hlt,yQ3 htg,iNn,hkx,fits];refine hcall.mono ?_;rintro r _ ⟨hr,rfl⟩;have hn:IsFmsD (us.take (k+1)) (ys++[r]):=by
   rw[yQ7 ha];exact hys.append (IsFmsD.one hr)
  obtain⟨o7,n7,t7,x7,t8,x8,rfl⟩:=IsFmD.aggs hr;simp only[go_sem,zE,zA,zM,zL,fits,yQ1];refine yKb hown hlen2 hsub rfl (by simp[fits,IV.one]) (by simp only;omega) (by omega) λtg2 st4 hown2 hsub4 _ hap2=>?_;simp only[go_sem,zE,f1,f14,f15,f16,yQd hlt (show us.length<=281474976710656 by omega)];exact⟨tg2,_,rfl,hn,hap2.pos hpos,hown2,hsub4⟩
 ·rintro fr st1 _ ⟨⟨tg',ys,f5,hys,hap,hown,hsub⟩,f1,f14,f15,f16,rfl⟩;rw[lTl] at hys;simp only[go_sem,zE,f5,f15,f16,yQm (nLi _)];exact yQs (st':=st) hsub ⟨tg',ys,rfl,hown.es,hap,hys,rfl⟩
theorem xKc (o:Nat)(n:ByteArray)(us:List Tm)(sub:List Fm)(IH:∀a∈sub,sCF gl a):sCF gl (.mk o n us sub):=by
 intro x hx hs st;obtain⟨t1,x1,t2,x2,rfl,ho,ht1,hx1,ht2,hx2⟩:=hx.mk;simp only[Fm.size] at hs;have hc1:=zYe gl us t1 x1 ht1 hx1 (by omega) st;have hc2:=zZr gl sub IH t2 x2 ht2 hx2 (by omega) st;refine ICall.intro (c:=cf prog gl [] [(1,[0,1,2,3,4,5,7,8,6,9,10,11])]) func41 rfl (by show _<=14;simp) (by kernel_rfl) ?_;simp only[go_sem,zE,zA];refine hc1.mono ?_;rintro _ _ ⟨tg',ys,rfl,he,ha,hys,rfl⟩;simp only[go_sem,zE,zA];refine hc2.mono ?_;rintro _ _ ⟨tg2,ys2,rfl,he2,ha2,hys2,rfl⟩;simp only[go_sem,zE,zA,zL,fits];exact yQ0 ⟨IsFmD.intro ho he ha hys he2 ha2 hys2,rfl⟩
theorem zYd:∀(k:Nat)(f:Fm),SizeOf.sizeOf f<k->sCF gl f
 | 0,f,h=>by omega
 | k+1,.mk o n us sub,h=>xKc gl o n us sub (λa ha=>zYd k a (by
   have:=lSm ha;simp only[Fm.mk.sizeOf_spec] at h;omega))
theorem zZp (f:Fm):sCF gl f:=zYd gl _ f (Nat.lt_succ_self _)
theorem wWl (us:List Fm)(tg:Tag)(xs:List IV)(htg:okEs tg 4)(hxs:IsFms us xs)(hsz:yQb us<=1099511627776)(st:ISt) :
  ICall prog gl 218 [.sl tg xs] st (λr st'=>∃tg' ys,r=.sl tg' ys/\okEs tg' 4/\(appT us.length tg'/\tg'.fresh=true)/\IsFmsD us ys/\own st' tg' us.length 4 st/\subSt st st'):=by
 have hlsz:=yXa us;refine iI func218 ?_;simp only[go_sem,reduceCtorEq,hxs.len];intro _;refine LoopC.ctr us.length (λk fr st' ds=>(∃tg' ys,fr 3=.iv (.sl tg' ys)/\IsFmsD (us.take k) ys/\(appT k tg'/\tg'.fresh=true)/\own st' tg' k 4 st/\subSt st st') /\
  fr 6=.iv (.sl tg xs)/\fr 7=.iv (.raw (.int .i64 us.length))/\fr 8=.iv (.raw (.int .i64 k))/\ds=[]) ?_ ?_ ?_
 ·simp only[go_sem,zE];exact⟨⟨_,_,rfl,IsFmsD.nil,⟨.inl rfl,rfl⟩,own.nil _ _ _ _ _,subSt.refl _⟩,rfl⟩
 ·rintro k fr st1 _ hlt ⟨⟨tg',ys,f3,hys,hap,hown,hsub⟩,f6,f7,f8,rfl⟩;obtain⟨a,ha⟩:=yQ2 hlt;obtain⟨x,hkx,hx⟩:=hxs.get ha;obtain⟨h1,h2⟩:=yZ4 ha;have hlen2:ys.length=k:=by rw[hys.len,List.length_take];omega
  have hcall:=zZp gl a x hx (by omega) st1;obtain⟨o5,n5,t5,x5,t6,x6,rfl⟩:=hx.agg;simp only[go_sem,zE,zB,zA,zL,f3,f6,f7,f8,lt_i hlt,yQ3 htg,iNn,hkx,fits];refine hcall.mono ?_;rintro r _ ⟨hr,rfl⟩;have hn:IsFmsD (us.take (k+1)) (ys++[r]):=by
   rw[yQ7 ha];exact hys.append (IsFmsD.one hr)
  obtain⟨o7,n7,t7,x7,t8,x8,rfl⟩:=IsFmD.aggs hr;simp only[go_sem,zE,zA,zM,zL,fits,yQ1];refine yKb hown hlen2 hsub rfl (by simp[fits,IV.one]) (by simp only;omega) (by omega) λtg2 st4 hown2 hsub4 _ hap2=>?_;simp only[go_sem,zE,f6,f7,f8,yQd hlt (show us.length<=281474976710656 by omega)];exact⟨tg2,_,rfl,hn,⟨hap2,by
   rcases hown2 with⟨h0,_⟩|rfl|⟨_,rfl,_⟩
   ·omega
   ·rfl
   ·rfl⟩,hown2,hsub4⟩
 ·rintro fr st1 _ ⟨⟨tg',ys,f3,hys,hap,hown,hsub⟩,f6,f7,f8,rfl⟩;rw[lTl] at hys;simp only[go_sem,zE,f3,f7,f8,yQm (nLi _)];exact yQ0 ⟨tg',ys,rfl,hown.es,hap,hys,hown,hsub⟩
end Go.Proofs.Tryz
namespace Go.Proofs.Tryz
open Go Go.Iv
mutual
def opsB (ca:Nat):Fm->Bool
 | .mk op _ us sub=>decide (1<=op)&&decide (op<=if ca=3 then 9 else 7)&&(decide (ca=3) || us.isEmpty)&&yV0 ca sub
def yV0 (ca:Nat):List Fm->Bool
 | []=>true
 | a::l=>opsB ca a&&yV0 ca l
end
def fmB (ca:Nat)(f:Fm):Bool:=f.right&&opsB ca f
def yWd (ca:Nat):Bool:=decide (1<=ca)&&decide (ca<=3)
noncomputable def eqF (a b:Fm):Bool:=decide (a.op=b.op)&&zJ1 a b
noncomputable def zWj:List Fm->Bool
 | []=>true
 | a::l=>(a::l).all λf=>eqF f a
noncomputable def yQx (ca:Nat)(s:Sq):Bool :=
 yWd ca&&decide (s.l.length<=64)&&decide (s.r.length<=64)&&s.l.all (fmB ca)&&s.r.all (fmB ca)&&(decide (ca≠2) || zWj s.r)
structure Rw where
 left:Bool
 right:Bool
 op:Nat
 asks:Nat
def rowK (rule:Nat):Option Rw :=
 if rule=1 then some ⟨true,true,0,0⟩ else if rule=2 then some ⟨true,false,2,0⟩ else if rule=3 then some ⟨true,false,3,0⟩ else if rule=4 then some ⟨false,true,3,0⟩
 else if rule=5 then some ⟨true,false,4,0⟩ else if rule=6 then some ⟨false,true,4,0⟩ else if rule=7 then some ⟨true,false,5,0⟩ else if rule=8 then some ⟨false,true,5,0⟩
 else if rule=9 then some ⟨true,false,6,0⟩ else if rule=10 then some ⟨false,true,6,0⟩ else if rule=11 then some ⟨true,false,7,0⟩ else if rule=12 then some ⟨false,true,7,0⟩
 else if rule=17 then some ⟨false,false,0,0⟩ else none
def rowS (ca rule:Nat):Option Rw :=
 if ca=2/\rule=18 then some ⟨false,true,5,0⟩
 else if ca=3/\rule=13 then some ⟨true,false,8,1⟩ else if ca=3/\rule=14 then some ⟨false,true,8,2⟩
 else if ca=3/\rule=15 then some ⟨true,false,9,2⟩ else if ca=3/\rule=16 then some ⟨false,true,9,1⟩ else rowK rule
def bE:ByteArray:=⟨#[]⟩
def impF (a b:Fm):Fm:=.mk 6 bE [] [a,b]
def addS (ca rule:Nat)(main a b:Fm):List Sq :=
 if rule=3 then [⟨[],[a]⟩] else if rule=4 then [⟨[a],[]⟩] else if rule=5 then [⟨[a,b],[]⟩] else if rule=6 then [⟨[],[a]⟩,⟨[],[b]⟩]
 else if rule=7 then [⟨[a],[]⟩,⟨[b],[]⟩] else if rule=8 then (if ca=2 then [⟨[],[a]⟩] else [⟨[],[a,b]⟩]) else if rule=9 then [⟨[],[a]⟩,⟨[b],[]⟩]
 else if rule=10 then [⟨[a],[b]⟩] else if rule=11 then [⟨[impF a b,impF b a],[]⟩] else if rule=12 then [⟨[a],[b]⟩,⟨[b],[a]⟩]
 else if rule=13 then [⟨[a],[]⟩] else if rule=14 then [⟨[],[a]⟩] else if rule=15 then [⟨[a],[]⟩] else if rule=16 then [⟨[],[a]⟩]
 else if rule=17 then [⟨[],[main]⟩,⟨[main],[]⟩] else if rule=18 then [⟨[],[b]⟩] else []
noncomputable def zGx (ca rule:Nat)(r:Rw)(main:Fm)(term:Tm)(name:ByteArray):List Sq×Nat :=
 if !fmB ca main || (decide (r.op≠0)&&decide (main.op≠r.op)) then ([],192)
 else
  let a:=(main.subs[0]?).getD fm0
  let b:=(main.subs[1]?).getD fm0
  if r.asks=0 then (addS ca rule main a b,0)
  else
   let t:=if r.asks=2 then .mk true name [] else term
   if !t.ok then ([],193)
   else if (yX3 a [(main.nm,t)]).2≠0 then ([],193) else (addS ca rule main (yX3 a [(main.nm,t)]).1 b,0)
