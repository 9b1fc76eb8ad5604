/- Putting, renaming, normal forms: plain d -/
import Derived.Test.YtdbmgeebmfpmpaaGreatDoorJT
import Derived.Lib.ItoaNum
set_option linter.all false
namespace Go.Proofs.Tryz
open Go Go.Iv
def yVj (k:Nat):ByteArray:=⟨(120::Lib.decDigits k).toArray⟩
def valD (l:List UInt8):Nat:=l.foldl (λa d=>a*10+(d.toNat-48)) 0
theorem xKp (u:Nat):valD (Lib.decDigits u)=u:=by
 induction u using Nat.strongRecOn with
 | _ u ih =>
  rw[Lib.decDigits];by_cases h:u<10
  ·rw[dif_pos h];simp only[valD,List.foldl_cons,List.foldl_nil,UInt8.toNat_ofNat'];omega
  ·rw[dif_neg h];have:=ih (u / 10) (by omega);simp only[valD,List.foldl_append,List.foldl_cons,List.foldl_nil,UInt8.toNat_ofNat'] at this ⊢;grind
theorem xUo {a b:Nat}(h:yVj a=yVj b):a=b:=by
 have h1:(120::Lib.decDigits a)=(120::Lib.decDigits b):=by
  have:=congrArg (λx:ByteArray=>x.data.toList) h;simpa[yVj] using this
 have h2:Lib.decDigits a=Lib.decDigits b:=by injection h1
 rw[<- xKp a,h2,xKp b]
theorem zYx {α:Type} [DecidableEq α]:∀(a b:List α),a.Nodup->(∀x∈a,x∈b)->a.length<=b.length
 | [],b,_,_=>Nat.zero_le _
 | x::a,b,hn,hs=>by
  have hx:=hs x (List.mem_cons_self ..);have hn':=List.nodup_cons.1 hn;have:=zYx a (b.erase x) hn'.2 (λy hy=>(List.mem_erase_of_ne (by rintro rfl;exact hn'.1 hy)).2 (hs y (List.mem_cons_of_mem _ hy)));grind
theorem wWd (l:List ByteArray):∃k,1<=k/\k<=l.length+1/\yVj k ∉ l:=by
 refine Classical.byContradiction λhne=>?_;have hall:∀k,1<=k->k<=l.length+1->yVj k∈l:=λk h1 h2=>Classical.byContradiction λh=>hne ⟨k,h1,h2,h⟩;have:=zYx ((List.range' 1 (l.length+1)).map yVj) l (by
   unfold List.Nodup;rw[List.pairwise_map];exact List.Pairwise.imp (λh he=>h (xUo he)) (List.nodup_range' (s:=1) (n:=l.length+1))) (λx hx=>by
   obtain⟨k,hk,rfl⟩:=List.mem_map.1 hx;have:=List.mem_range'_1.1 hk;exact hall k (by omega) (by omega))
 grind
noncomputable def yYm (l:List ByteArray):Nat:=Iv.least (λk=>1<=k/\yVj k ∉ l)
theorem yU5 (l:List ByteArray):1<=yYm l/\yYm l<=l.length+1/\yVj (yYm l) ∉ l/\∀j,1<=j->j<yYm l->yVj j∈l:=by
 obtain⟨k,h1,h2,h3⟩:=wWd l;have hs:=Iv.least_spec (p:=λk=>1<=k/\yVj k ∉ l) ⟨k,h1,h3⟩;refine⟨hs.1.1,Nat.le_trans (hs.2 k ⟨h1,h3⟩) h2,hs.1.2,λj hj hlt=>Classical.byContradiction λhn=>?_⟩;have:=hs.2 j ⟨hj,hn⟩;unfold yYm at hlt;omega
theorem wX8 {l:List ByteArray}{k:Nat}(h1:1<=k)(h2:yVj k ∉ l)(h3:∀j,1<=j->j<k->yVj j∈l):yYm l=k:=by
 obtain⟨a1,a2,a3,a4⟩:=yU5 l;grind
theorem xQe {l m:List ByteArray}(h:∀x,x∈l↔x∈m):yYm l=yYm m:=by
 obtain⟨a1,a2,a3,a4⟩:=yU5 m;exact wX8 a1 (λhx=>a3 ((h _).1 hx)) (λj hj hlt=>(h _).2 (a4 j hj hlt))
noncomputable def yJ4 (l:List ByteArray):ByteArray:=yVj (yYm l)
theorem xQd {l m:List ByteArray}(h:∀x,x∈l↔x∈m):yJ4 l=yJ4 m:=by unfold yJ4;rw[xQe h]
def memB (l:List ByteArray)(n:ByteArray):Bool:=l.any λx=>decide (x=n)
@[simp] theorem yJ0 {l:List ByteArray}{n:ByteArray}:memB l n=true↔n∈l:=by
 simp[memB]
@[simp] theorem zXe {l:List ByteArray}{n:ByteArray}:memB l n=false↔n ∉ l:=by
 rw[<- Bool.not_eq_true,yJ0]
mutual
def frF:Fm->List ByteArray
 | .mk op m us sub=>yQr us++(if isQ op then (frFs sub).filter (λn=>!decide (n=m)) else frFs sub)
def frFs:List Fm->List ByteArray
 | []=>[]
 | a::l=>frF a++frFs l
end
theorem xGw (b:ByteArray->Nat)(m:ByteArray)(l:List ByteArray):yK0 (incB b m) l=yK0 b (l.filter (λn=>!decide (n=m))):=by
 unfold yK0;rw[List.filter_filter];refine List.filter_congr λn _=>?_;unfold incB;grind
mutual
theorem xQw:∀(f:Fm)(b:ByteArray->Nat),zQa b f=yK0 b (frF f)
 | .mk op m us sub,b=>by
  simp only[zQa,frF,yXe];rw[zWo sub];split
  ·rw[xGw]
  ·rfl
theorem zWo:∀(l:List Fm)(b:ByteArray->Nat),yZu b l=yK0 b (frFs l)
 | [],b=>by simp[yZu,frFs,yK0]
 | a::l,b=>by simp only[yZu,frFs,yXe,xQw a b,zWo l b]
end
theorem zXo (f:Fm):xJh f=frF f:=by
 unfold xJh;rw[xQw];unfold yK0;rw[List.filter_eq_self];intro a _;rfl
abbrev Sb:=List (ByteArray×Tm)
def yXg (l:Sb)(n:ByteArray):Option Tm:=(l.find? λp=>decide (p.1=n)).map (·.2)
def cntS (ps:Sb)(m:ByteArray)(fr:List ByteArray):Sb:=ps.filter λp=>memB fr p.1&&!decide (p.1=m)
def xZ8 (ps:Sb)(m:ByteArray)(fr:List ByteArray):Bool:=(cntS ps m fr).any λp=>memB (yZ1 p.2) m
def yUq (ps:Sb)(m:ByteArray)(fr:List ByteArray):List ByteArray:=fr++(cntS ps m fr).flatMap λp=>yZ1 p.2
noncomputable def yKl (ps:Sb)(m:ByteArray)(fr:List ByteArray):ByteArray×Sb :=
 if xZ8 ps m fr then (yJ4 (yUq ps m fr),cntS ps m fr++[(m,.mk true (yJ4 (yUq ps m fr)) [])]) else (m,cntS ps m fr)
mutual
noncomputable def yGn:Sb->Fm->Fm
 | ps,.mk op m us sub=>.mk op (if isQ op then (yKl ps m (frFs sub)).1 else m) (yZz (yXg ps) us) (yK7 (if isQ op then (yKl ps m (frFs sub)).2 else ps) sub)
noncomputable def yK7:Sb->List Fm->List Fm
 | _,[]=>[]
 | ps,a::l=>yGn ps a::yK7 ps l
end
theorem yWs (ps:Sb):∀l m:List Fm,yK7 ps (l++m)=yK7 ps l++yK7 ps m
 | [],m=>by simp[yK7]
 | a::l,m=>by simp only[List.cons_append,yK7,yWs ps l m]
theorem yJg (ps:Sb):∀l:List Fm,(yK7 ps l).length=l.length
 | []=>rfl
 | a::l=>by simp only[yK7,List.length_cons,yJg ps l]
inductive NlT where
 | bv (i:Nat)
 | fv (n:ByteArray)
 | ap (n:ByteArray) (l:List NlT)
inductive NlF where
 | mk (op:Nat) (n:ByteArray) (us:List NlT) (sub:List NlF)
def wZu:List ByteArray->ByteArray->Option Nat
 | [],_=>none
 | m::e,n=>if n=m then some e.length else wZu e n
def yKs (env:List ByteArray)(n:ByteArray):NlT:=match wZu env n with|some i=>.bv i|none=>.fv n
mutual
def db (env:List ByteArray):Tm->NlT
 | .mk true n _=>yKs env n
 | .mk false n l=>.ap n (dbs env l)
def dbs (env:List ByteArray):List Tm->List NlT
 | []=>[]
 | a::l=>db env a::dbs env l
end
mutual
def dbF:List ByteArray->Fm->NlF
 | env,.mk op m us sub=>.mk op (if isQ op then ⟨#[]⟩ else m) (dbs env us) (dbFs (if isQ op then m::env else env) sub)
def dbFs:List ByteArray->List Fm->List NlF
 | _,[]=>[]
 | env,a::l=>dbF env a::dbFs env l
end
theorem xVu:∀ {e:List ByteArray}{n:ByteArray}{i:Nat},wZu e n=some i->i<e.length
 | [],n,i,h=>by cases h
 | m::e,n,i,h=>by
  simp only[wZu] at h;split at h
  ·cases h;simp
  ·have:=xVu h;simp only[List.length_cons];omega
theorem zWg {e:List ByteArray}{m n:ByteArray}:yKs (m::e) n=if n=m then .bv e.length else yKs e n:=by
 unfold yKs;simp only[wZu];grind
theorem xVi {n:ByteArray}{l:List Tm}(h:(Tm.mk true n l).ok=true):l=[]:=by
 simp only[Tm.ok,bAt,List.isEmpty_iff] at h;exact h.1
theorem xVj {n:ByteArray}{l:List Tm}(h:(Tm.mk false n l).ok=true):yYe l=true:=by
 simp only[Tm.ok,bAt] at h;exact h.2
theorem yKh {a:Tm}{l:List Tm}(h:yYe (a::l)=true):a.ok=true/\yYe l=true:=by
 simpa only[yYe,bAt] using h
theorem yKi {a:Fm}{l:List Fm}(h:yY0 (a::l)=true):a.ok=true/\yY0 l=true:=by
 simpa only[yY0,bAt] using h
theorem zJo {op:Nat}{m:ByteArray}{us:List Tm}{sub:List Fm}(h:(Fm.mk op m us sub).ok=true):yYe us=true/\yY0 sub=true/\yJq op m us.length sub.length=true:=by
 simp only[Fm.ok,bAt] at h;exact⟨h.1.2,h.2,h.1.1⟩
theorem zX1 {ps:Sb}{q:ByteArray×Tm->Bool}{n:ByteArray}(h:∀u,q (n,u)=true):yXg (ps.filter q) n=yXg ps n:=by
 unfold yXg;grind
theorem zX2 {ps:Sb}{q:ByteArray×Tm->Bool}{n:ByteArray}(h:∀u,q (n,u)=false):yXg (ps.filter q) n=none:=by
 unfold yXg;grind
theorem zZq (ps qs:Sb)(n:ByteArray):yXg (ps++qs) n=(yXg ps n).or (yXg qs n):=by
 unfold yXg;grind
theorem xQa {ps:Sb}{m n:ByteArray}{fr:List ByteArray}(hn:n∈fr)(hm:n≠m):yXg (cntS ps m fr) n=yXg ps n :=
 zX1 λu=>by simp[hn,hm]
theorem yGs {ps:Sb}{m:ByteArray}{fr:List ByteArray}:yXg (cntS ps m fr) m=none :=
 zX2 λu=>by simp
theorem xQ9 {ps:Sb}{n:ByteArray}{u:Tm}(h:yXg ps n=some u):(n,u)∈ps:=by
 unfold yXg at h;rw[Option.map_eq_some_iff] at h;grind
theorem xGg {ps:Sb}{m:ByteArray}{fr:List ByteArray}{n:ByteArray}(hn:n∈fr) :
  yXg (yKl ps m fr).2 n=if n=m then (if xZ8 ps m fr then some (.mk true (yKl ps m fr).1 []) else none) else yXg ps n:=by
 unfold yKl;by_cases hnm:n=m
 ·subst hnm;rw[if_pos rfl];split
  ·simp only[zZq,yGs];simp[yXg]
  ·exact yGs
 ·rw[if_neg hnm];split
  ·simp only[zZq,xQa hn hnm];have:yXg [(m,Tm.mk true (yJ4 (yUq ps m fr)) [])] n=none:=by simp[yXg,Ne.symm hnm]
   rw[this];simp
  ·exact xQa hn hnm
section
variable (ps:List Pc)
def HSz (b:ByteArray->Nat)(F:ByteArray->Option Tm)(n:ByteArray):Prop :=
 (if b n=0 then zZ5 ps n (1,1) else (1,1))=(((F n).getD (.mk true n [])).size,((F n).getD (.mk true n [])).deep)
mutual
theorem wUm (b:ByteArray->Nat)(F:ByteArray->Option Tm):∀t:Tm,t.ok=true->(∀n∈yZ1 t,HSz ps b F n)->psz ps b t=((yY2 F t).size,(yY2 F t).deep)
 | .mk true n l,h,hn=>by
  obtain rfl:=xVi h;have h1:=hn n (by simp[yZ1]);unfold HSz at h1;simp only[psz,pszs,true_and,yY2];rw[h1];cases F n with
  | none=>rfl
  | some u=>rfl
 | .mk false n l,h,hn=>by
  have:=zYr b F l (xVj h) (λn hm=>hn n (by simpa[yZ1] using hm));simp only[psz,bFt,false_and,if_false,yY2,Tm.size,Tm.deep,this]
theorem zYr (b:ByteArray->Nat)(F:ByteArray->Option Tm):∀l:List Tm,yYe l=true->(∀n∈yQr l,HSz ps b F n)->pszs ps b l=(yQf (yZz F l),yQu (yZz F l))
 | [],_,_=>rfl
 | a::l,h,hn=>by
  simp only[pszs,yZz,yQf,yQu,wUm b F a (yKh h).1 (λn hm=>hn n (by simp[yQr,hm])),zYr b F l (yKh h).2 (λn hm=>hn n (by simp[yQr,hm]))]
end
theorem wKf {b:ByteArray->Nat}{qs:Sb}{m:ByteArray}{fr:List ByteArray}{n:ByteArray}(hn:n∈fr)(h:n≠m->HSz ps b (yXg qs) n):HSz ps (incB b m) (yXg (yKl qs m fr).2) n:=by
 unfold HSz at h ⊢;rw[xGg hn];by_cases hnm:n=m
 ·subst hnm;simp only[incB,if_true];rw[if_neg (by omega)];split<;>rfl
 ·simp only[incB,if_neg hnm];exact h hnm
mutual
theorem xWl:∀(f:Fm)(qs:Sb)(b:ByteArray->Nat),f.ok=true->(∀n∈frF f,HSz ps b (yXg qs) n)->fsz ps b f=((yGn qs f).size,(yGn qs f).deep)
 | .mk op m us sub,qs,b,hok,h=>by
  obtain⟨h1,h2,_⟩:=zJo hok;simp only[frF] at h;simp only[fsz,yGn,Fm.size,Fm.deep,zYr ps b (yXg qs) us h1 (λn hn=>h n (by simp[hn]))];by_cases hq:isQ op=true
  ·simp only[hq,if_true] at h ⊢;rw[zKa sub _ _ h2 (λn hn=>wKf ps hn (λhm=>h n (by simp[hn,hm])))]
  ·simp only[hq,bFt,if_false] at h ⊢;rw[zKa sub qs b h2 (λn hn=>h n (by simp[hn]))]
theorem zKa:∀(l:List Fm)(qs:Sb)(b:ByteArray->Nat),yY0 l=true->(∀n∈frFs l,HSz ps b (yXg qs) n)->fszs ps b l=(yQb (yK7 qs l),yZ5 (yK7 qs l))
 | [],_,_,_,_=>rfl
 | a::l,qs,b,hok,h=>by
  simp only[frFs] at h;simp only[fszs,yK7,yQb,yZ5,xWl a qs b (yKi hok).1 (λn hn=>h n (by simp[hn])),zKa l qs b (yKi hok).2 (λn hn=>h n (by simp[hn]))]
end
end
def toS (ps:List Pc):Sb:=ps.map λp=>(p.nm,p.tm)
theorem wVl (ps:List Pc):putF ps=yXg (toS ps):=by
 funext n;unfold putF yXg toS;rw[List.find?_map];simp only[Option.map_map];rfl
theorem zWj:∀(ps:List Pc)(z:Nat×Nat)(n:ByteArray),(ps.map Pc.nm).Nodup->zZ5 ps n z=match yXg (toS ps) n with|some u=>(u.size,u.deep)|none=>z
 | [],z,n,_=>rfl
 | p::ps,z,n,h=>by
  simp only[List.map_cons,List.nodup_cons] at h;have ih:=zWj ps (if p.nm=n then (p.tm.size,p.tm.deep) else z) n h.2;have h0:zZ5 (p::ps) n z=zZ5 ps n (if p.nm=n then (p.tm.size,p.tm.deep) else z):=rfl;rw[h0,ih];have hc:yXg (toS (p::ps)) n=if p.nm=n then some p.tm else yXg (toS ps) n:=by
   unfold yXg toS;grind
  rw[hc];by_cases hp:p.nm=n
  ·rw[if_pos hp,if_pos hp];have:yXg (toS ps) n=none:=by
    cases hl:yXg (toS ps) n with
    | none=>rfl
    | some u =>
     have:=xQ9 hl;unfold toS at this;grind
   rw[this]
  ·grind
theorem HSz0 {ps:List Pc}(h:(ps.map Pc.nm).Nodup)(n:ByteArray):HSz ps (λ_=>0) (yXg (toS ps)) n:=by
 unfold HSz;rw[if_pos rfl,zWj ps _ n h];cases yXg (toS ps) n<;>rfl
theorem vKv {ps:List Pc}(h:(ps.map Pc.nm).Nodup){f:Fm}(hf:f.ok=true):fsz ps (λ_=>0) f=((yGn (toS ps) f).size,(yGn (toS ps) f).deep) :=
 xWl ps f (toS ps) _ hf (λn _=>HSz0 h n)
theorem zQy:∀(k u:Nat),u<10 ^ (k+1)->Lib.nDigits u<=k+1
 | 0,u,h=>by rw[Lib.nDigits_small (by simpa using h)];omega
 | k+1,u,h=>by
  by_cases hu:u<10
  ·rw[Lib.nDigits_small hu];omega
  ·rw[Lib.nDigits_big hu];have:=zQy k (u / 10) (by rw[Nat.pow_succ] at h;omega);omega
mutual
theorem zWe:∀t:Tm,(yZ1 t).length<=t.size
 | .mk true n l=>by have:=yWo l;simp only[yZ1,List.length_cons,Tm.size];omega
 | .mk false n l=>by have:=yWo l;simp only[yZ1,Tm.size];omega
theorem yWo:∀l:List Tm,(yQr l).length<=yQf l
 | []=>Nat.le_refl _
 | a::l=>by have:=zWe a;have:=yWo l;simp only[yQr,lLa,yQf];omega
end
mutual
theorem xWn:∀f:Fm,(frF f).length<=f.size
 | .mk op m us sub=>by
  have h1:=yWo us;have h2:=xJj sub;simp only[frF,lLa,Fm.size];grind
theorem xJj:∀l:List Fm,(frFs l).length<=yQb l
 | []=>Nat.le_refl _
 | a::l=>by have:=xWn a;have:=xJj l;simp only[frFs,lLa,yQb];omega
end
def wS:Sb->Nat
 | []=>0
 | p::l=>p.2.size+wS l
theorem zU5:∀l m:Sb,wS (l++m)=wS l+wS m
 | [],m=>by simp[wS]
 | a::l,m=>by simp only[List.cons_append,wS,zU5 l m];omega
theorem yUh (q:ByteArray×Tm->Bool):∀l:Sb,wS (l.filter q)<=wS l
 | []=>Nat.le_refl _
 | a::l=>by
  have:=yUh q l;rw[List.filter_cons];split
  ·simp only[wS];omega
  ·simp only[wS];omega
theorem wJ3:∀l:Sb,(l.flatMap λp=>yZ1 p.2).length<=wS l
 | []=>Nat.le_refl _
 | a::l=>by
  have:=wJ3 l;have:=zWe a.2;simp only[List.flatMap_cons,lLa,wS];omega
theorem wKu (ps:Sb)(m:ByteArray)(fr:List ByteArray):(yUq ps m fr).length<=fr.length+wS ps:=by
 have:=wJ3 (cntS ps m fr);have:=yUh (λp=>memB fr p.1&&!decide (p.1=m)) ps;unfold yUq cntS at *;grind
theorem wKp (ps:Sb)(m:ByteArray)(fr:List ByteArray):wS (yKl ps m fr).2<=wS ps+1:=by
 have:=yUh (λp=>memB fr p.1&&!decide (p.1=m)) ps;unfold yKl cntS;split
 ·simp only[zU5,wS,Tm.size,yQf];omega
 ·grind
noncomputable def zV1 (f g:Fm):Bool:=f.right&&g.right&&eqB (dbF [] f) (dbF [] g)
theorem xVs {e:List ByteArray}{n:ByteArray}{l:Nat}(h:e.length<=l):yKs e n≠.bv l:=by
 unfold yKs;split
 ·rename_i i hi;have:=xVu hi;grind
 ·grind
theorem xGh {ls rs:List ByteArray}{l r n n':ByteArray}(hlen:ls.length=rs.length):yKs (l::ls) n=yKs (r::rs) n'↔(if n=l\/n'=r then n=l/\n'=r else yKs ls n=yKs rs n'):=by
 rw[zWg,zWg];by_cases h1:n=l
 ·by_cases h2:n'=r
  ·grind
  ·simp only[h1,h2,if_true,true_or,and_false,iff_false,if_false];exact λh=>xVs (Nat.le_of_eq hlen.symm) h.symm
 ·by_cases h2:n'=r
  ·simp only[h1,h2,if_true,or_true,false_and,iff_false,if_false];exact λh=>xVs (Nat.le_of_eq hlen) h
  ·simp[h1,h2]
theorem xVt {e:List ByteArray}{n m:ByteArray}{l:List NlT}:yKs e n≠.ap m l:=by
 unfold yKs;split<;>intro h<;>cases h
theorem wZt {n:ByteArray}:yKs [] n=.fv n:=rfl
abbrev Ar:=List (ByteArray×ByteArray)
def renF (ar:Ar)(n:ByteArray):Option Tm:=(ar.find? λp=>decide (p.1=n)).map λp=>.mk true p.2 []
mutual
noncomputable def zVh (free:List ByteArray):Ar->Fm->Fm
 | ar,.mk op m us sub=>.mk op (if isQ op then yJ4 (free++ar.map (·.2)) else m) (yZz (renF ar) us) (yKr free (if isQ op then (m,yJ4 (free++ar.map (·.2)))::ar else ar) sub)
noncomputable def yKr (free:List ByteArray):Ar->List Fm->List Fm
 | _,[]=>[]
 | ar,a::l=>zVh free ar a::yKr free ar l
end
theorem zQ1 (free:List ByteArray)(ar:Ar):∀l m:List Fm,yKr free ar (l++m)=yKr free ar l++yKr free ar m
 | [],m=>by simp[yKr]
 | a::l,m=>by simp only[List.cons_append,yKr,zQ1 free ar l m]
theorem yWm (free:List ByteArray)(ar:Ar):∀l:List Fm,(yKr free ar l).length=l.length
 | []=>rfl
 | a::l=>by simp only[yKr,List.length_cons,yWm free ar l]
noncomputable def zJt (f:Fm):Fm:=zVh (frF f) [] f
theorem wVh {ar:Ar}{n:ByteArray}{u:Tm}(h:renF ar n=some u):u.size=1/\u.deep=1:=by
 unfold renF at h;rw[Option.map_eq_some_iff] at h;obtain⟨p,_,rfl⟩:=h;exact⟨rfl,rfl⟩
theorem yWj {f:Fm}(h:f.right=true):f.ok=true/\f.size<=400/\f.deep<=40:=by
 simp only[Fm.right,bAt,dTe] at h;exact⟨h.1.1,h.1.2,h.2⟩
