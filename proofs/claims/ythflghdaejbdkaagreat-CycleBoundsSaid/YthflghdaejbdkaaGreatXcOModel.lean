/- Lemmas of this claim. -/
import Derived.Test.YthflghdaejbdkaaGreatXcQModel
namespace Go.Proofs.YthflghdaejbdkaaGreat
set_option linter.unusedVariables false
def Blk (P:Pl) (c a:Int) (v:Nat->Int):Prop:=∃ i k,a=((16*i+k*bsz c:Nat):Int)/\P.Holds c i k v
section
variable {P:Pl} {c a:Int} {v:Nat->Int}
theorem Blk.aLm (h:Blk P c a v) {y:Nat->Int} (e:∀ x,x<bsz c->y x=v x):Blk P c a y:=by
 obtain ⟨i,k,z,d⟩:=h;exact ⟨i,k,z,d.upto e⟩
theorem Blk.range (h:Blk P c a v) (z:IsC c):0<=a/\a+(bsz c:Int)<=16*(P.n:Int):=by
 obtain ⟨i,k,rfl,y⟩:=h;have d:=y.hi;have e:=(z.blk y.kb).1;omega
theorem Blk.tells (h:Blk P c a v) (y:IsC c) {x:Nat} (hx:x<bsz c):P.begin (a+(x:Int))=(a,0)/\P.cell (a+(x:Int))=(v x,0):=by
 obtain ⟨i,k,rfl,z⟩:=h;have:=z.tells y hx;rw [Int.natCast_add] at this;exact this
theorem Blk.begin (h:Blk P c a v) (y:IsC c):P.begin a=(a,0):=by
 have:=(h.tells y (x:=0) (by have:=y.sz;omega)).1;simpa using this
theorem Blk.apart {c' d:Int} {v':Nat->Int} (h:Blk P c a v) (hc:IsC c) (h':Blk P c' d v') (h0:IsC c') (h4:a≠d):a+(bsz c:Int)<=d\/d+(bsz c':Int)<=a:=by
 obtain ⟨i,k,rfl,hh⟩:=h;obtain ⟨i',k',rfl,z⟩:=h';have h1:=hc.blk hh.kb;have h2:=h0.blk z.kb
 by_cases e:i=i'
 ·subst e;obtain rfl:c=c':=by rw [<-hh.cls,z.cls]
  by_cases ek:k=k'
  ·subst ek;exact absurd rfl h4
  rcases hc.facts with ⟨y,_⟩|⟨y,_⟩|⟨y,_⟩<;>rw [y] at *<;>omega
 rcases Nat.lt_or_ge i i' with y|y
 ·left;omega
 right;omega
theorem Blk.alloc (y:P.ok) (h:Blk P c a v) (d:IsC c) (cl:Int):Blk (P.alloc cl).2.2 c a v:=by
 obtain ⟨i,k,z,e⟩:=h;exact ⟨i,k,z,e.alloc y d cl⟩
theorem Blk.free (h:Blk P c a v) (z:IsC c) {b:Int} (y:b≠a):Blk (P.free b).2 c a v:=by
 obtain ⟨i,k,rfl,d⟩:=h;exact ⟨i,k,rfl,d.free z y⟩
theorem Blk.setOther (h:Blk P c a v) {b n:Int} (hb:b<a\/a+(bsz c:Int)<=b):Blk (P.setCell b n).2 c a v:=by
 obtain ⟨i,k,rfl,y⟩:=h;exact ⟨i,k,rfl,y.setCell (by omega)⟩
theorem Blk.put (h:Blk P c a v) (y:IsC c) {x:Nat} (hx:x<bsz c) (n:Int):(P.setCell (a+(x:Int)) n).1=0/\Blk (P.setCell (a+(x:Int)) n).2 c a (up v x n):=by
 obtain ⟨i,k,rfl,z⟩:=h;have:=z.put y hx n;rw [Int.natCast_add] at this;exact ⟨this.1,i,k,rfl,this.2⟩
theorem Blk.new (y:P.ok) (e:IsC c) (he:(P.alloc c).2.1=0):Blk (P.alloc c).2.2 c (P.alloc c).1 (fun _=>0):=by
 obtain ⟨i,k,z,d⟩:=Pl.aFf y e he;exact ⟨i,k,z,d⟩
theorem Blk.fresh (h3:P.ok) {z:Int} (y:IsC z) (he:(P.alloc z).2.1=0) (h:Blk P c a v) (hc:IsC c):(P.alloc z).1≠a:=by
 obtain ⟨i,k,rfl,hh⟩:=h;have h1:=hc.blk hh.kb;have s1:=hc.sz;have s2:=y.sz;intro e;rcases P.gW z with hb|⟨_,⟨j,hj,d,hb⟩|⟨hn,⟨j,hj,d,hb⟩|hf⟩⟩
 ·exact absurd hb (uI.2 y)
 ·rw [Pl.fQ y hj d hb] at e;have hg:=(h3 j hj).gap y d;have h2:=y.blk hg.1;have e':16*j+(P.pg j).gap z*bsz z=16*i+k*bsz c:=Int.ofNat.inj e;obtain rfl:j=i:=by omega
  have h0:z=c:=by rw [<-hh.cls,(Pg.dS.1 d).1]
  subst h0;have:=hc.blocks (k:=(P.pg j).gap z) (l:=k) (by omega);rw [this,hh.used] at hg
  cases hg.2
 ·rw [Pl.iI y hn hj d hb] at e;have e':16*j=16*i+k*bsz c:=Int.ofNat.inj e;obtain rfl:j=i:=by omega
  rw [hh.cls] at d;rcases hc with e2|e2|e2<;>omega
 rw [Pl.fU y hn hf] at he
 cases he
theorem Blk.move (d:P.ok) (h:Blk P c a v) (hc:IsC c) :
  (P.move.2.2.1=0/\P.move.1=a/\Blk P.move.2.2.2 c P.move.2.1 v)\/(¬ (P.move.2.2.1=0/\P.move.1=a)/\Blk P.move.2.2.2 c a v):=by
 obtain ⟨i,k,rfl,hh⟩:=h;rcases hh.move d hc with ⟨y,z,i',k',e,h4⟩|⟨y,z⟩
 ·exact .inl ⟨y,z,i',k',e,h4⟩
 exact .inr ⟨y,i,k,rfl,z⟩
theorem Blk.yI (h3:P.ok) (h:Blk P c a v) (d:IsC c) (he:P.move.2.2.1=0):P.move.2.1≠a:=by
 obtain ⟨i,k,rfl,hh⟩:=h
 cases hp:P.pair with
 | none=>rw [Pl.fC hp] at he;cases he
 | some x=>
  obtain ⟨f,t⟩:=x;have y:=Pl.jG hp;rw [Pl.fB hp];intro e;have z:=(h3 t y.hj).gap y.c y.pj;have e':16*t+(P.pg t).gap (P.pg t).cls*bsz (P.pg f).cls=16*i+k*bsz c:=Int.ofNat.inj e;rw [y.same] at e';have h1:=y.c.blk z.1;have h2:=d.blk hh.kb;have s1:=y.c.sz;have s2:=d.sz;obtain rfl:t=i:=by omega
  have h0:(P.pg f).cls=c:=by rw [<-hh.cls,y.same]
  rw [h0] at z e';have:=d.blocks (k:=(P.pg t).gap c) (l:=k) (by omega);rw [this,hh.used] at z
  cases z.2
theorem Pl.eX {P:Pl} {a n:Int} (h:P.cell a=(n,0)):(P.setCell a n).2=P/\(P.setCell a n).1=0:=by
 have hb:(P.begin a).2=0:=by
  unfold Pl.cell at h;split at h
  ·assumption
  rename_i y;exact absurd (congrArg Prod.snd h) y
 have z:(P.pg (a.toNat / 16)).cell (a.toNat % 16)=n:=by
  unfold Pl.cell at h;rw [if_pos hb] at h;exact congrArg Prod.fst h
 unfold Pl.setCell;rw [if_pos hb];refine ⟨?_,rfl⟩;have e:({ P.pg (a.toNat / 16) with cell:=up (P.pg (a.toNat / 16)).cell (a.toNat % 16) n }:Pg)=P.pg (a.toNat / 16):=by
  have:up (P.pg (a.toNat / 16)).cell (a.toNat % 16) n=(P.pg (a.toNat / 16)).cell:=by
   funext j
   by_cases e:j=a.toNat % 16
   ·rw [e,bM,z]
   rw [aU _ _ e]
  rw [this]
 show P.set (a.toNat / 16) _=P;rw [e];unfold Pl.set;have:up P.pg (a.toNat / 16) (P.pg (a.toNat / 16))=P.pg:=by
  funext j
  by_cases e:j=a.toNat / 16
  ·rw [e,bM]
  rw [aU _ _ e]
 rw [this]
end
def gB (l:List Bool) (i:Nat):Bool:=l[i]?.getD false
structure Th where
 kind:Int
 cls:Int
 refs:List Bool
 slots:List Int
 blocks:List Int
structure Hp where
 P:Pl
 ob:Int->Option Th
def dZ (f:Int->Option Th) (h:Int) (o:Option Th):Int->Option Th:=fun j=>if j=h then o else f j
theorem aY (f:Int->Option Th) (h:Int) (o:Option Th):dZ f h o h=o:=if_pos rfl
theorem bD (f:Int->Option Th) {h j:Int} (o:Option Th) (e:j≠h):dZ f h o j=f j:=if_neg e
theorem aW {f:Int->Option Th} {h j:Int} {o t:Th} (e:dZ f h (some o) j=some t):(j=h/\t=o)\/(j≠h/\f j=some t):=by
 unfold dZ at e
 by_cases y:j=h
 ·rw [if_pos y] at e;cases e;exact .inl ⟨y,rfl⟩
 rw [if_neg y] at e;exact .inr ⟨y,e⟩
def mO (n:Nat):Int:=if n<=2 then 0 else if n<=4 then 1 else 2
def aS (n:Nat):List Int:=mO (1+n) :: (if 7<n then List.replicate ((n+7) / 8) 2 else [])
theorem aGb (n:Nat):IsC (mO n):=by unfold mO IsC;split;simp;split<;>simp
theorem aKG {n:Nat} (h:n<=7):1+n<=bsz (mO (1+n)):=by
 unfold mO;split
 ·show 1+n<=2;omega
 split
 ·show 1+n<=4;omega
 show 1+n<=8;omega
theorem rZ {n:Nat} (h:7<n):mO (1+n)=2:=by unfold mO;rw [if_neg (by omega),if_neg (by omega)]
theorem nO (n:Nat):(aS n).length=if 7<n then 1+(n+7) / 8 else 1:=by
 unfold aS;split<;>simp
 omega
theorem lC (n:Nat):gI (aS n) 0=mO (1+n):=rfl
theorem tN {n m:Nat} (z:1<=m) (y:m<(aS n).length):7<n/\gI (aS n) m=2:=by
 rw [nO] at y
 by_cases h:7<n
 ·rw [if_pos h] at y;refine ⟨h,?_⟩;unfold aS gI;rw [if_pos h];obtain ⟨k,rfl⟩:∃ k,m=k+1:=⟨m - 1,by omega⟩;rw [List.getElem?_cons_succ,List.getElem?_replicate,if_pos (by omega)];rfl
 rw [if_neg h] at y;omega
theorem dM (n:Nat) {m:Nat} (z:m<(aS n).length):IsC (gI (aS n) m):=by
 by_cases y:1<=m
 ·rw [(tN y z).2];exact .inr (.inr rfl)
 obtain rfl:m=0:=by omega
 exact aGb _
theorem wK (n:Nat) (h:n<=48):(aS n).length<=7:=by rw [nO];split<;>omega
theorem jU (n:Nat):1<=(aS n).length:=by rw [nO];split<;>omega
def dF (P:Pl) (l:List Int):Nat->Option (List Int×Pl)
 | 0=>some ([],P)
 | k+1=>match dF P l k with
  | some (bs,Q)=>if (Q.alloc (gI l k)).2.1=0 then some (bs ++ [(Q.alloc (gI l k)).1],(Q.alloc (gI l k)).2.2) else none
  | none=>none
def vN (P:Pl) (a:Int) (l:List Int):Nat->Pl
 | 0=>P
 | k+1=>((vN P a l k).setCell (a+(k:Int)) (gI l k)).2
def fK (P:Pl) (h:Int) (bs:List Int):Pl:=vN ((P.setCell (gI bs 0) h).2) (gI bs 0+1) (bs.drop 1) (bs.length - 1)
def Hp.least (M:Hp):Nat:=fst (fun k=>(M.ob ((k:Int)+1)).isNone) 192
def Hp.add (M:Hp) (o:Th):Int×Int×Hp:=
 if M.least<192 then
  match dF M.P (aS o.slots.length) (aS o.slots.length).length with
  | some (bs,Q)=>((M.least:Int)+1,0,⟨fK Q ((M.least:Int)+1) bs,dZ M.ob ((M.least:Int)+1) (some { o with blocks:=bs })⟩)
  | none=>(0,14,M)
 else (0,14,M)
def vI (c:Int) (y:List Bool):Th:=⟨2,c,y,List.replicate y.length 0,[]⟩
def qH (k c:Int) (n:Nat):Th:=⟨k,c,List.replicate n (decide (k=4)),List.replicate n 0,[]⟩
def Hp.aH (M:Hp) (c:Int) (y:List Bool):Int×Int×Hp:=
 if c<0\/10<=c\/7<y.length then (0,1,M) else M.add (vI c y)
def Hp.aG (M:Hp) (k c n:Int):Int×Int×Hp:=
 if n<0\/48<n then (0,1,M)
 else if (k=3/\c=0)\/(k=4/\0<=c/\c<10) then M.add (qH k c n.toNat) else (0,1,M)
def Th.addr (o:Th) (s:Nat):Int:=if 1<o.blocks.length then gI o.blocks (1+s / 8)+((s % 8:Nat):Int) else gI o.blocks 0+1+(s:Int)
def Hp.slot (M:Hp) (h s:Int):Int:=match M.ob h with|none=>3|some o=>if s<0\/(o.slots.length:Int)<=s then 1 else 0
def Hp.get (M:Hp) (h s:Int):Int×Int:=match M.ob h with|none=>(0,3)|some o=>if s<0\/(o.slots.length:Int)<=s then (0,1) else (gI o.slots s.toNat,0)
def iT (v:Int):Bool:=decide (-2147483648<=v/\v<=2147483647)
def Hp.fits (M:Hp) (r:Bool) (v:Int):Bool:=if r then (decide (v=0) || (M.ob v).isSome) else iT v
def Th.put (o:Th) (s:Nat) (v:Int):Th:={ o with slots:=o.slots.set s v }
def Hp.set (M:Hp) (h s v:Int):Int×Hp:=match M.ob h with
 | none=>(3,M)
 | some o=>if s<0\/(o.slots.length:Int)<=s then (1,M)
  else if M.fits (gB o.refs s.toNat) v then (0,⟨(M.P.setCell (o.addr s.toNat) v).2,dZ M.ob h (some (o.put s.toNat v))⟩) else (1,M)
def Hp.type (M:Hp) (h:Int):Int×Int×Int×Int:=match M.ob h with|none=>(0,0,0,3)|some o=>(o.kind,o.cls,o.slots.length,0)
def Hp.isRef (M:Hp) (h s:Int):Bool×Int:=match M.ob h with|none=>(false,3)|some o=>if s<0\/(o.slots.length:Int)<=s then (false,1) else (gB o.refs s.toNat,0)
def Th.fV (o:Th):Nat->List Int
 | 0=>[]
 | k+1=>o.fV k ++ if gB o.refs k=true/\gI o.slots k≠0 then [gI o.slots k] else []
def Th.vV (o:Th):List Int:=o.fV o.slots.length
def Hp.refs (M:Hp) (h:Int):List Int×Int:=match M.ob h with|none=>([],3)|some o=>(o.vV,0)
def Hp.refers (M:Hp) (h k:Int):Bool:=decide (k≠h) && (match M.ob k with|none=>false|some o=>decide (h∈o.vV))
def Hp.held (M:Hp) (h:Int):Bool:=(List.range 192).any fun k=>M.refers h ((k:Int)+1)
def iH (P:Pl) (l:List Int):Nat->Pl
 | 0=>P
 | k+1=>((iH P l k).free (gI l k)).2
def Hp.drop (M:Hp) (h:Int) (o:Th):Hp:=⟨iH M.P o.blocks o.blocks.length,dZ M.ob h none⟩
def Hp.release (M:Hp) (h:Int):Int×Hp:=match M.ob h with
 | none=>(3,M)
 | some o=>if M.held h then (13,M) else (0,M.drop h o)
def Hp.aZ (M:Hp):Nat->List Int
 | 0=>[]
 | k+1=>M.aZ k ++ if (M.ob ((k:Int)+1)).isSome then [(k:Int)+1] else []
def Hp.handles (M:Hp):List Int:=M.aZ 192
def Hp.blocks (M:Hp) (h:Int):List Int×Int:=match M.ob h with|none=>([],3)|some o=>(o.blocks,0)
def Th.place (o:Th) (a:Int):Nat:=fst (fun k=>gI o.blocks k == a) o.blocks.length
def Hp.owns (M:Hp) (a h:Int):Bool:=match M.ob h with|none=>false|some o=>decide (o.place a<o.blocks.length)
def Hp.owner (M:Hp) (a:Int):Nat:=fst (fun k=>M.owns a ((k:Int)+1)) 192
def Th.moved (o:Th) (k:Nat) (y:Int):Th:={ o with blocks:=o.blocks.set k y }
def Hp.fD (Q:Pl) (ob:Int->Option Th) (h:Int) (o:Th) (k:Nat) (y:Int):Hp:=
 ⟨if k=0 then Q else (Q.setCell (gI o.blocks 0+(k:Int)) y).2,dZ ob h (some (o.moved k y))⟩
def Hp.move (M:Hp):Int×Int×Hp:=
 if M.P.move.2.2.1=0 then
  match M.ob ((M.owner M.P.move.1:Int)+1),decide (M.owner M.P.move.1<192) with
  | some o,true=>((M.owner M.P.move.1:Int)+1,0,Hp.fD M.P.move.2.2.2 M.ob ((M.owner M.P.move.1:Int)+1) o (o.place M.P.move.1) M.P.move.2.1)
  | _,_=>(0,0,⟨M.P.move.2.2.2,M.ob⟩)
 else (0,M.P.move.2.2.1,M)
def Hp.new (n:Nat):Hp:=⟨Pl.zero n,fun _=>none⟩
def Th.cell (o:Th) (h:Int) (m x:Nat):Int:=
 if m=0 then (if x=0 then h else if 1<o.blocks.length then gI o.blocks x else gI o.slots (x - 1)) else gI o.slots ((m - 1)*8+x)
structure Th.ok1 (o:Th):Prop where
 kd:(o.kind=2/\0<=o.cls/\o.cls<10/\o.slots.length<=7)\/(o.kind=3/\o.cls=0/\o.slots.length<=48/\∀ s,gB o.refs s=false)\/(o.kind=4/\0<=o.cls/\o.cls<10/\o.slots.length<=48/\∀ s,s<o.slots.length->gB o.refs s=true)
 rl:o.refs.length=o.slots.length
structure Hp.Ok (M:Hp):Prop where
 p:M.P.ok
 n1:1<=M.P.n
 n24:M.P.n<=24
 hr:∀ h o,M.ob h=some o->1<=h/\h<=192
 th:∀ h o,M.ob h=some o->o.ok1
 bl:∀ h o,M.ob h=some o->o.blocks.length=(aS o.slots.length).length
 bk:∀ h o,M.ob h=some o->∀ m,m<o.blocks.length->Blk M.P (gI (aS o.slots.length) m) (gI o.blocks m) (o.cell h m)
 dj:∀ h o,M.ob h=some o->∀ h' o',M.ob h'=some o'->∀ m,m<o.blocks.length->∀ m',m'<o'.blocks.length->gI o.blocks m=gI o'.blocks m'->h=h'/\m=m'
 sl:∀ h o,M.ob h=some o->∀ s,s<o.slots.length->M.fits (gB o.refs s) (gI o.slots s)=true
theorem Th.ok1.le {o:Th} (h:o.ok1):o.slots.length<=48:=by rcases h.kd with h|h|h<;>omega
theorem rX {l:List Int} {i j:Nat} {v:Int} (y:i<l.length):gI (l.set i v) j=if j=i then v else gI l j:=by
 unfold gI;rw [List.getElem?_set]
 by_cases e:i=j
 ·subst e;rw [if_pos rfl,if_pos y,if_pos rfl];rfl
 rw [if_neg e,if_neg (Ne.symm e)]
theorem aKB {l:List Int} {x:Int} {j:Nat}:gI (l ++ [x]) j=if j<l.length then gI l j else if j=l.length then x else 0:=by
 unfold gI
 by_cases h:j<l.length
 ·rw [if_pos h,List.getElem?_append_left h]
 rw [if_neg h,List.getElem?_append_right (by omega)]
 by_cases e:j=l.length
 ·rw [if_pos e,e];simp
 rw [if_neg e,List.getElem?_eq_none (by simp;omega)];rfl
theorem aQA {l:List Int} {j:Nat} (h:l.length<=j):gI l j=0:=by unfold gI;rw [List.getElem?_eq_none h];rfl
section
variable {M:Hp} {h:Int} {o:Th}
theorem Hp.Ok.aAu (z:M.Ok) (d:M.ob h=some o):1<=o.blocks.length/\o.blocks.length<=7/\(1<o.blocks.length↔7<o.slots.length)/\(7<o.slots.length->o.blocks.length=1+(o.slots.length+7) / 8):=by
 have y:=z.bl h o d;have e:=(z.th h o d).le;have h3:=wK _ e;rw [nO] at y h3;split at y<;>(refine ⟨by omega,by omega,by omega,by omega⟩)
theorem Hp.Ok.isC (y:M.Ok) (d:M.ob h=some o) {m:Nat} (z:m<o.blocks.length):IsC (gI (aS o.slots.length) m):=dM _ (by rw [<-y.bl h o d];exact z)
def Th.pF (o:Th) (s:Nat):Nat:=if 1<o.blocks.length then 1+s / 8 else 0
def Th.vU (o:Th) (s:Nat):Nat:=if 1<o.blocks.length then s % 8 else 1+s
theorem Th.addr_eq (o:Th) (s:Nat):o.addr s=gI o.blocks (o.pF s)+(o.vU s:Int):=by
 unfold addr pF vU;split
 ·rfl
 omega
theorem Hp.Ok.aCr (z:M.Ok) (d:M.ob h=some o) {s:Nat} (hs:s<o.slots.length) :
  o.pF s<o.blocks.length/\o.vU s<bsz (gI (aS o.slots.length) (o.pF s))/\o.cell h (o.pF s) (o.vU s)=gI o.slots s:=by
 obtain ⟨h1,h2,e,h4⟩:=z.aAu d;unfold Th.pF Th.vU Th.cell
 by_cases hb:1<o.blocks.length
 ·have y:=e.1 hb;have hl:=h4 y;simp only [hb,if_true];refine ⟨by omega,?_,?_⟩
  ·rw [(tN (by omega) (by rw [<-z.bl h o d];omega)).2];show s % 8<8;omega
  rw [if_neg (by omega)];congr 1;omega
 have y:o.slots.length<=7:=by omega
 simp only [hb,if_false,if_true];refine ⟨by omega,?_,?_⟩
 ·rw [lC];have:=aKG y;omega
 rw [if_neg (by omega)];congr 1;omega
theorem Hp.Ok.kM (y:M.Ok) (z:M.ob h=some o) {s:Nat} (hs:s<o.slots.length):M.P.cell (o.addr s)=(gI o.slots s,0)/\(M.P.begin (o.addr s)).2=0:=by
 obtain ⟨d,e,h3⟩:=y.aCr z hs;have:=(y.bk h o z _ d).tells (y.isC z d) e;rw [Th.addr_eq,<-h3];exact ⟨this.2,by rw [this.1]⟩
theorem Hp.Ok.aFR (y:M.Ok) (z:M.ob h=some o):M.P.cell (gI o.blocks 0)=(h,0):=by
 have hb:=y.aAu z;have d:=y.isC z (m:=0) (by omega);have:=((y.bk h o z 0 (by omega)).tells d (x:=0) (by have:=d.sz;omega)).2;simpa [Th.cell] using this
theorem Hp.Ok.aBE (y:M.Ok) (z:M.ob h=some o) {k:Nat} (h1:1<=k) (h2:k<o.blocks.length):M.P.cell (gI o.blocks 0+(k:Int))=(gI o.blocks k,0):=by
 obtain ⟨h0,h3,d,h4⟩:=y.aAu z;have hc:=y.isC z (m:=0) (by omega);have e:=d.1 (by omega);have:=((y.bk h o z 0 (by omega)).tells hc (x:=k) (by rw [lC,rZ e];show k<8;omega)).2;rw [this];unfold Th.cell;rw [if_pos rfl,if_neg (by omega),if_pos (by omega)]
end
structure aQY (P:Pl) (l:List Int) (k:Nat) (bs:List Int) (Q:Pl):Prop where
 ok:Q.ok
 n:Q.n=P.n
 len:bs.length=k
 old:∀ c a v,IsC c->Blk P c a v->Blk Q c a v/\∀ m,m<k->gI bs m≠a
 new:∀ m,m<k->Blk Q (gI l m) (gI bs m) (fun _=>0)
 dj:∀ m,m<k->∀ m',m'<k->gI bs m=gI bs m'->m=m'
theorem dX {P:Pl} (h4:P.ok) {l:List Int} (hl:∀ m,m<l.length->IsC (gI l m)):∀ k,k<=l.length->∀ bs Q,dF P l k=some (bs,Q)->aQY P l k bs Q:=by
 intro k
 induction k with
 | zero=>
  intro _ bs Q e;unfold dF at e
  cases e
  exact ⟨h4,rfl,rfl,fun c a v _ h=>⟨h,fun m hm=>by omega⟩,fun m hm=>by omega,fun m hm=>by omega⟩
 | succ k ih=>
  intro hk bs Q e;unfold dF at e
  cases e1:dF P l k with
  | none=>rw [e1] at e;cases e
  | some x=>
   obtain ⟨z,Q'⟩:=x;rw [e1] at e;simp only at e;split at e
   ·rename_i he
    cases e
    have s:=ih (by omega) z Q' e1;have hc:=hl k (by omega);have y:∀ m,m<k->gI (z ++ [(Q'.alloc (gI l k)).1]) m=gI z m:=fun m hm=>by rw [aKB,if_pos (by rw [s.len];exact hm)]
    have d:gI (z ++ [(Q'.alloc (gI l k)).1]) k=(Q'.alloc (gI l k)).1:=by rw [aKB,if_neg (by rw [s.len];omega),if_pos s.len.symm]
    refine ⟨(s.ok.alloc _).1,(s.ok.alloc _).2.trans s.n,by simp [s.len],fun c a v h0 hb=>?_,fun m hm=>?_,fun m hm m' hm' e2=>?_⟩
    ·obtain ⟨h1,h2⟩:=s.old c a v h0 hb;refine ⟨h1.alloc s.ok h0 _,fun m hm=>?_⟩
     by_cases em:m=k
     ·rw [em,d];exact h1.fresh s.ok hc he h0
     rw [y m (by omega)];exact h2 m (by omega)
    ·by_cases em:m=k
     ·rw [em,d];exact Blk.new s.ok hc he
     rw [y m (by omega)];exact (s.new m (by omega)).alloc s.ok (hl m (by omega)) _
    by_cases em:m=k
    ·by_cases h3:m'=k
     ·omega
     rw [em,d,y m' (by omega)] at e2;exact absurd e2 ((s.new m' (by omega)).fresh s.ok hc he (hl m' (by omega)))
    by_cases h3:m'=k
    ·rw [h3,d,y m (by omega)] at e2;exact absurd e2.symm ((s.new m (by omega)).fresh s.ok hc he (hl m (by omega)))
    rw [y m (by omega),y m' (by omega)] at e2;exact s.dj m (by omega) m' (by omega) e2
   cases e
theorem aCE {P:Pl} (z:P.ok) (a:Int) (l:List Int) (k:Nat):(vN P a l k).ok/\(vN P a l k).n=P.n:=by
 induction k with
 | zero=>exact ⟨z,rfl⟩
 | succ k y=>exact ⟨(y.1.setCell _ _).1,(y.1.setCell _ _).2.trans y.2⟩
theorem aGT {P:Pl} {z y:Int} {d:Nat->Int} (h:Blk P z y d) {a:Int} {l:List Int} {k:Nat} (ha:a+(k:Int)<=y\/y+(bsz z:Int)<=a):Blk (vN P a l k) z y d:=by
 induction k with
 | zero=>exact h
 | succ k e=>exact (e (by omega)).setOther (by omega)
def aRc (v:Nat->Int) (x0:Nat) (l:List Int) (k:Nat):Nat->Int:=fun x=>if x0<=x/\x<x0+k then gI l (x - x0) else v x
theorem aOo {P:Pl} {c b:Int} {v:Nat->Int} (d:IsC c) (h:Blk P c b v) {x0:Nat} {l:List Int} {k:Nat} (hx:x0+k<=bsz c):Blk (vN P (b+(x0:Int)) l k) c b (aRc v x0 l k):=by
 induction k with
 | zero=>exact h.aLm (fun x _=>by unfold aRc;rw [if_neg (by omega)])
 | succ k ih=>
  have z:=((ih (by omega)).put d (x:=x0+k) (by omega) (gI l k)).2;unfold vN;rw [show b+(x0:Int)+(k:Int)=b+((x0+k:Nat):Int) by omega];refine z.aLm (fun x _=>?_);unfold aRc
  by_cases e:x=x0+k
  ·rw [e,bM,if_pos (by omega)];congr 1;omega
  rw [aU _ _ e]
  by_cases y:x0<=x/\x<x0+k
  ·rw [if_pos y,if_pos (by omega)]
  rw [if_neg y,if_neg (by omega)]
theorem aHw {P:Pl} (y:P.ok) (h:Int) (bs:List Int):(fK P h bs).ok/\(fK P h bs).n=P.n:=by
 have z:=aCE (y.setCell (gI bs 0) h).1 (gI bs 0+1) (bs.drop 1) (bs.length - 1);exact ⟨z.1,z.2.trans (y.setCell _ _).2⟩
theorem yV {P:Pl} {c a:Int} {v:Nat->Int} {z:Int} {v0:Nat->Int} (y:IsC z) (hc:IsC c) (h:Int) (bs:List Int) (hb:Blk P z (gI bs 0) v0) (hl:bs.length<=bsz z) (h0:1<=bs.length) (e:Blk P c a v) (d:gI bs 0≠a):Blk (fK P h bs) c a v:=by
 have h1:=hb.apart y e hc d;have s:=y.sz;exact aGT (e.setOther (by omega)) (by omega)
theorem aMC {P:Pl} {z:Int} {v0:Nat->Int} (y:IsC z) (h:Int) (bs:List Int) (hb:Blk P z (gI bs 0) v0) (hl:bs.length<=bsz z) (h0:1<=bs.length) :
  Blk (fK P h bs) z (gI bs 0) (fun x=>if x=0 then h else if x<bs.length then gI bs x else v0 x):=by
 have s:=y.sz;have h1:=(hb.put y (x:=0) (by omega) h).2;simp only [Int.natCast_zero,Int.add_zero] at h1;have h2:=aOo y h1 (x0:=1) (l:=bs.drop 1) (k:=bs.length - 1) (by omega);refine h2.aLm (fun x _=>?_);unfold aRc
 by_cases e:x=0
 ·subst e;rw [if_pos rfl,if_neg (by omega),bM]
 rw [if_neg e]
 by_cases d:x<bs.length
 ·rw [if_pos d,if_pos (by omega)];unfold gI;rw [List.getElem?_drop,show 1+(x - 1)=x by omega]
 rw [if_neg d,if_neg (by omega),aU _ _ e]
section
variable {M:Hp} {h:Int} {o:Th}
theorem Hp.oO (M:Hp) (y:M.least<192):M.ob ((M.least:Int)+1)=none:=by
 have:=(dQ (fun k=>(M.ob ((k:Int)+1)).isNone) 192).2 y;simpa [Hp.least] using this
theorem aJC (n:Nat) (y:n<=48):(aS n).length<=bsz (gI (aS n) 0):=by
 rw [lC,nO]
 by_cases h:7<n
 ·rw [if_pos h,rZ h];show _<=8;omega
 rw [if_neg h];have:=(aGb (1+n)).sz;omega
theorem Hp.Ok.lI {ob':Int->Option Th} {P':Pl} {r:Bool} {v:Int} (y:M.fits r v=true) (z:∀ k,(M.ob k).isSome=true->(ob' k).isSome=true):(⟨P',ob'⟩:Hp).fits r v=true:=by
 unfold Hp.fits at y ⊢
 cases r
 ·exact y
 simp only [if_true,Bool.or_eq_true] at y ⊢;exact y.imp id (z v)
theorem Hp.Ok.aKF (r:Bool):M.fits r 0=true:=by unfold Hp.fits;cases r<;>rfl
theorem Hp.Ok.add (y:M.Ok) (ho:o.ok1) (hz:∀ s,gI o.slots s=0):(M.add o).2.2.Ok:=by
 unfold Hp.add;split
 ·rename_i hl;have h8:=M.oO hl;have x3:=ho.le
  cases e:dF M.P (aS o.slots.length) (aS o.slots.length).length with
  | none=>exact y
  | some x=>
   obtain ⟨bs,Q⟩:=x;have s:=dX y.p (l:=aS o.slots.length) (fun m hm=>dM _ hm) _ (Nat.le_refl _) bs Q e;obtain ⟨hN,h9⟩:∃ hN,hN=(M.least:Int)+1:=⟨_,rfl⟩;rw [<-h9] at h8;show Hp.Ok ⟨fK Q ((M.least:Int)+1) bs,dZ M.ob ((M.least:Int)+1) (some { o with blocks:=bs })⟩;rw [<-h9];have hp:=jU o.slots.length;have x1:=s.len;have h6:=dM o.slots.length (m:=0) (by omega);have x6:=aJC o.slots.length x3;have h5:=s.new 0 (by omega);have h7:=aHw s.ok hN bs;refine ⟨h7.1,by rw [h7.2,s.n];exact y.n1,by rw [h7.2,s.n];exact y.n24,fun h' o' e'=>?_,fun h' o' e'=>?_,fun h' o' e'=>?_,fun h' o' e' m hm=>?_,fun h1 o1 e1 h2 o2 z m hm m' d em=>?_,fun h' o' e' s' hs=>?_⟩
   ·rcases aW e' with ⟨rfl,_⟩|⟨_,z⟩
    ·omega
    exact y.hr h' o' z
   ·rcases aW e' with ⟨_,rfl⟩|⟨_,z⟩
    ·exact ⟨ho.kd,ho.rl⟩
    exact y.th h' o' z
   ·rcases aW e' with ⟨_,rfl⟩|⟨_,z⟩
    ·exact x1
    exact y.bl h' o' z
   ·rcases aW e' with ⟨rfl,rfl⟩|⟨_,z⟩
    ·have d:m<bs.length:=hm;show Blk _ (gI (aS o.slots.length) m) (gI bs m) _
     by_cases e0:m=0
     ·subst e0;refine (aMC h6 h' bs h5 (by omega) (by omega)).aLm (fun x _=>?_);unfold Th.cell;simp only [if_true]
      by_cases ex:x=0
      ·rw [if_pos ex,if_pos ex]
      rw [if_neg ex,if_neg ex]
      by_cases e1:1<bs.length
      ·rw [if_pos e1]
       by_cases e3:x<bs.length
       ·rw [if_pos e3]
       rw [if_neg e3,aQA (by omega)]
      rw [if_neg e1,if_neg (by omega),hz]
     have h3:=dM o.slots.length (m:=m) (by omega);refine (yV h6 h3 h' bs h5 (by omega) (by omega) (s.new m (by omega)) (fun e3=>e0 (s.dj m (by omega) 0 (by omega) e3.symm))).aLm (fun x _=>?_);unfold Th.cell;rw [if_neg e0];exact hz _
    have h3:=y.isC z hm;obtain ⟨h1,h2⟩:=s.old _ _ _ h3 (y.bk h' o' z m hm);exact yV h6 h3 hN bs h5 (by omega) (by omega) h1 (h2 0 (by omega))
   ·rcases aW e1 with ⟨rfl,rfl⟩|⟨_,h4⟩
    ·rcases aW z with ⟨rfl,rfl⟩|⟨_,h0⟩
     ·have x4:m<bs.length:=hm;have x5:m'<bs.length:=d;exact ⟨rfl,s.dj m (by omega) m' (by omega) em⟩
     have x4:m<bs.length:=hm;exact absurd em ((s.old _ _ _ (y.isC h0 d) (y.bk h2 o2 h0 m' d)).2 m (by omega))
    rcases aW z with ⟨rfl,rfl⟩|⟨_,h0⟩
    ·have x5:m'<bs.length:=d;exact absurd em.symm ((s.old _ _ _ (y.isC h4 hm) (y.bk h1 o1 h4 m hm)).2 m' (by omega))
    exact y.dj h1 o1 h4 h2 o2 h0 m hm m' d em
   rcases aW e' with ⟨rfl,rfl⟩|⟨_,z⟩
   ·show Hp.fits _ (gB o.refs s') (gI o.slots s')=true;rw [hz];exact Hp.Ok.aKF _
   refine Hp.Ok.lI (y.sl h' o' z s' hs) (fun k x2=>?_)
   by_cases ek:k=hN
   ·rw [ek,aY];rfl
   rw [bD _ _ ek];exact x2
 exact y
theorem pX {c:Int} {y:List Bool} (h:¬ (c<0\/10<=c\/7<y.length)):(vI c y).ok1/\∀ s,gI (vI c y).slots s=0:=by
 refine ⟨⟨.inl ⟨rfl,by show 0<=c;omega,by show c<10;omega,by simp [vI];omega⟩,by simp [vI]⟩,fun s=>?_⟩;unfold vI gI;simp only [List.getElem?_replicate];split<;>rfl
theorem qG {k c n:Int} (h:¬ (n<0\/48<n)) (hk:(k=3/\c=0)\/(k=4/\0<=c/\c<10)):(qH k c n.toNat).ok1/\∀ s,gI (qH k c n.toNat).slots s=0:=by
 have y:∀ s,gB (qH k c n.toNat).refs s=(decide (s<n.toNat) && decide (k=4)):=fun s=>by
  unfold qH gB;simp only [List.getElem?_replicate]
  by_cases e:s<n.toNat
  ·rw [if_pos e];simp [e]
  rw [if_neg e];simp [e]
 refine ⟨⟨?_,by simp [qH]⟩,fun s=>?_⟩
 ·rcases hk with ⟨rfl,rfl⟩|⟨rfl,z,d⟩
  ·exact .inr (.inl ⟨rfl,rfl,by simp [qH];omega,fun s=>by rw [y];simp⟩)
  refine .inr (.inr ⟨rfl,z,d,by simp [qH];omega,fun s hs=>?_⟩);have:s<n.toNat:=by simpa [qH] using hs
  rw [y];simp;omega
 unfold qH gI;simp only [List.getElem?_replicate];split<;>rfl
theorem Hp.Ok.aH (d:M.Ok) (c:Int) (y:List Bool):(M.aH c y).2.2.Ok:=by
 unfold Hp.aH;split
 ·exact d
 rename_i z;exact d.add (pX z).1 (pX z).2
theorem Hp.Ok.aG (y:M.Ok) (k c n:Int):(M.aG k c n).2.2.Ok:=by
 unfold Hp.aG;split
 ·exact y
 rename_i z;split
 ·rename_i hd;exact y.add (qG z hd).1 (qG z hd).2
 exact y
theorem Hp.Ok.put (y:M.Ok) (e:M.ob h=some o) {s:Nat} (hs:s<o.slots.length) {v:Int} (hf:M.fits (gB o.refs s) v=true) :
  (⟨(M.P.setCell (o.addr s) v).2,dZ M.ob h (some (o.put s v))⟩:Hp).Ok:=by
 obtain ⟨h1,h2,h3⟩:=y.aCr e hs;have hc:=y.isC e h1;have hb:=(y.bk h o e _ h1).put hc h2 v;rw [<-Th.addr_eq] at hb;have x2:=y.p.setCell (o.addr s) v;have h6:∀ x,gI (o.slots.set s v) x=if x=s then v else gI o.slots x:=fun x=>rX hs;refine ⟨x2.1,by rw [x2.2];exact y.n1,by rw [x2.2];exact y.n24,fun d o' e'=>?_,fun d o' e'=>?_,fun d o' e'=>?_,fun d o' e' m hm=>?_,fun a1 o1 e1 a2 o2 e2 m hm m' h0 em=>?_,fun d o' e' s' hs'=>?_⟩
 ·rcases aW e' with ⟨rfl,_⟩|⟨_,e2⟩
  ·exact y.hr d o e
  exact y.hr d o' e2
 ·rcases aW e' with ⟨_,rfl⟩|⟨_,e2⟩
  ·have hh:=y.th h o e;exact ⟨by have:=hh.kd;simp only [Th.put,List.length_set];exact this,by simp only [Th.put,List.length_set];exact hh.rl⟩
  exact y.th d o' e2
 ·rcases aW e' with ⟨_,rfl⟩|⟨_,e2⟩
  ·have:=y.bl h o e;simp only [Th.put,List.length_set];exact this
  exact y.bl d o' e2
 ·rcases aW e' with ⟨rfl,rfl⟩|⟨x1,e2⟩
  ·have h0:m<o.blocks.length:=hm;have h9:=y.isC e h0;show Blk _ (gI (aS (o.slots.set s v).length) m) (gI o.blocks m) _;rw [List.length_set]
   by_cases em:m=o.pF s
   ·subst em;refine hb.2.aLm (fun x _=>?_)
    by_cases ex:x=o.vU s
    ·rw [ex,bM];show (o.put s v).cell d (o.pF s) (o.vU s)=v;unfold Th.cell Th.put Th.pF Th.vU;simp only [h6]
     by_cases h4:1<o.blocks.length
     ·simp only [h4,if_true];rw [if_neg (by omega),if_pos (by omega)]
     simp only [h4,if_false,if_true];rw [if_neg (by omega),if_pos (by omega)]
    rw [aU _ _ ex];unfold Th.cell Th.put;unfold Th.vU at ex;unfold Th.pF;simp only [h6]
    by_cases h4:1<o.blocks.length
    ·simp only [h4,if_true] at ex ⊢;rw [if_neg (by omega),if_neg (by omega),if_neg (by omega)]
    simp only [h4,if_false,if_true] at ex ⊢
    by_cases e0:x=0
    ·rw [if_pos e0,if_pos e0]
    rw [if_neg e0,if_neg e0,if_neg (by omega)]
   refine Blk.aLm (v:=o.cell d m) ?_ (fun x hx=>?_)
   ·have x1:gI o.blocks (o.pF s)≠gI o.blocks m:=fun e3=>em (y.dj d o e d o e _ h1 _ h0 e3).2.symm;have:=(y.bk d o e _ h1).apart hc (y.bk d o e m h0) h9 x1;refine (y.bk d o e m h0).setOther ?_;rw [Th.addr_eq];omega
   unfold Th.cell Th.put;unfold Th.pF at em;simp only [h6];have h8:∀ z:Nat,(z:Nat)<8->True:=fun _ _=>trivial
   by_cases h4:1<o.blocks.length
   ·simp only [h4,if_true] at em ⊢
    by_cases e0:m=0
    ·rw [if_pos e0,if_pos e0]
    rw [if_neg e0,if_neg e0];have x6:x<8:=by
     have:=(tN (n:=o.slots.length) (m:=m) (by omega) (by rw [<-y.bl d o e];exact h0)).2;rw [this] at hx;exact hx
    rw [if_neg (by omega)]
   exfalso;simp only [h4,if_false] at em;have:=y.aAu e;omega
  have h9:=y.isC e2 hm;refine (y.bk d o' e2 m hm).setOther ?_;have x4:gI o.blocks (o.pF s)≠gI o'.blocks m:=fun e3=>x1 (y.dj h o e d o' e2 _ h1 _ hm e3).1.symm;have:=(y.bk h o e _ h1).apart hc (y.bk d o' e2 m hm) h9 x4;rw [Th.addr_eq];omega
 ·rcases aW e1 with ⟨rfl,rfl⟩|⟨_,x3⟩
  ·rcases aW e2 with ⟨rfl,rfl⟩|⟨_,h7⟩
   ·exact y.dj _ o e _ o e m hm m' h0 em
   exact y.dj _ o e _ o2 h7 m hm m' h0 em
  rcases aW e2 with ⟨rfl,rfl⟩|⟨_,h7⟩
  ·exact y.dj _ o1 x3 _ o e m hm m' h0 em
  exact y.dj _ o1 x3 _ o2 h7 m hm m' h0 em
 have h5:∀ k,(M.ob k).isSome=true->(dZ M.ob h (some (o.put s v)) k).isSome=true:=fun k hks=>by
  by_cases ek:k=h
  ·rw [ek,aY];rfl
  rw [bD _ _ ek];exact hks
 rcases aW e' with ⟨rfl,rfl⟩|⟨_,e2⟩
 ·have x5:s'<o.slots.length:=by simpa [Th.put] using hs'
  show Hp.fits _ (gB o.refs s') (gI (o.slots.set s v) s')=true;rw [h6]
  by_cases e3:s'=s
  ·rw [if_pos e3,e3];exact Hp.Ok.lI hf h5
  rw [if_neg e3];exact Hp.Ok.lI (y.sl d o e s' x5) h5
 exact Hp.Ok.lI (y.sl d o' e2 s' hs') h5
theorem Hp.Ok.set (y:M.Ok) (h s v:Int):(M.set h s v).2.Ok:=by
 unfold Hp.set
 cases e:M.ob h with
 | none=>exact y
 | some o=>
  simp only;split
  ·exact y
  rename_i hs;split
  ·rename_i z;exact y.put e (by omega) z
  exact y
end
theorem aAT {P:Pl} (z:P.ok) (l:List Int) (k:Nat):(iH P l k).ok/\(iH P l k).n=P.n:=by
 induction k with
 | zero=>exact ⟨z,rfl⟩
 | succ k y=>exact ⟨(y.1.free _).1,(y.1.free _).2.trans y.2⟩
theorem zK {P:Pl} {c a:Int} {v:Nat->Int} (z:IsC c) (h:Blk P c a v) {l:List Int} {k:Nat} (y:∀ m,m<k->gI l m≠a):Blk (iH P l k) c a v:=by
 induction k with
 | zero=>exact h
 | succ k d=>exact (d (fun m e=>y m (by omega))).free z (y k (by omega))
theorem Th.aJK {o:Th} {k s:Nat} (hs:s<k) (y:gB o.refs s=true) (z:gI o.slots s≠0):gI o.slots s∈o.fV k:=by
 induction k with
 | zero=>omega
 | succ k d=>
  unfold fV
  by_cases e:s=k
  ·subst e;rw [if_pos ⟨y,z⟩];simp
  exact List.mem_append_left _ (d (by omega))
theorem Th.aCJ {o:Th} {k:Nat} {x:Int} (h:x∈o.fV k):∃ s,s<k/\gB o.refs s=true/\gI o.slots s=x/\x≠0:=by
 induction k with
 | zero=>simp [fV] at h
 | succ k d=>
  unfold fV at h;rcases List.mem_append.1 h with h|h
  ·obtain ⟨s,y,z⟩:=d h;exact ⟨s,by omega,z⟩
  split at h
  ·rename_i y;simp at h;exact ⟨k,by omega,y.1,h.symm,by rw [h];exact y.2⟩
  simp at h
theorem Th.nG (o:Th) (k:Nat):(o.fV k).length<=k:=by
 induction k with
 | zero=>simp [fV]
 | succ k y=>unfold fV;rw [List.length_append];split<;>simp<;>omega
section
variable {M:Hp} {h:Int} {o:Th}
theorem Hp.rP {M:Hp} {h:Int}:M.held h=true↔∃ k:Nat,k<192/\M.refers h ((k:Int)+1)=true:=by
 unfold Hp.held;rw [List.any_eq_true];constructor
 ·rintro ⟨k,y,z⟩;exact ⟨k,by simpa using y,z⟩
 rintro ⟨k,y,z⟩;exact ⟨k,by simpa using y,z⟩
theorem Hp.Ok.drop (hk:M.Ok) (ho:M.ob h=some o) (hh:M.held h=false):(M.drop h o).Ok:=by
 have h0:=aAT hk.p o.blocks o.blocks.length;have y:∀ z o',dZ M.ob h none z=some o'->z≠h/\M.ob z=some o':=fun z o' e=>by
  by_cases e1:z=h
  ·rw [e1,aY] at e;cases e
  rw [bD _ _ e1] at e;exact ⟨e1,e⟩
 refine ⟨h0.1,by show 1<=(iH _ _ _).n;rw [h0.2];exact hk.n1,by show (iH _ _ _).n<=24;rw [h0.2];exact hk.n24,fun z o' e=>hk.hr z o' (y z o' e).2,fun z o' e=>hk.th z o' (y z o' e).2,fun z o' e=>hk.bl z o' (y z o' e).2,fun z o' e m hm=>?_,fun d o1 e1 h2 o2 e2=>hk.dj d o1 (y _ _ e1).2 h2 o2 (y _ _ e2).2,fun z o' e s hs=>?_⟩
 ·obtain ⟨e1,e2⟩:=y z o' e;exact zK (hk.isC e2 hm) (hk.bk z o' e2 m hm) (fun m' h3 e3=>e1 (hk.dj h o ho z o' e2 m' h3 m hm e3).1.symm)
 obtain ⟨e1,e2⟩:=y z o' e;have d:=hk.sl z o' e2 s hs;unfold Hp.fits at d ⊢
 cases hr:gB o'.refs s
 ·rw [hr] at d;exact d
 rw [hr] at d;simp only [if_true,Bool.or_eq_true,decide_eq_true_eq] at d ⊢;rcases d with d|d
 ·exact .inl d
 by_cases e0:gI o'.slots s=0
 ·exact .inl e0
 right;show (dZ M.ob h none (gI o'.slots s)).isSome=true;rw [bD _ _ ?_]
 ·exact d
 intro e3;have hm:gI o'.slots s∈o'.vV:=Th.aJK hs hr e0;rw [e3] at hm;have hb:=hk.hr z o' e2;have:M.held h=true:=Hp.rP.2 ⟨z.toNat - 1,by omega,by
  unfold Hp.refers;rw [show ((z.toNat - 1:Nat):Int)+1=z by omega,e2];simp [e1,hm]⟩
 rw [hh] at this;cases this
theorem Hp.Ok.release (y:M.Ok) (h:Int):(M.release h).2.Ok:=by
 unfold Hp.release
 cases e:M.ob h with
 | none=>exact y
 | some o=>
  simp only;split
  ·exact y
  rename_i z;exact y.drop e (by simpa using z)
theorem Th.oJ {o:Th} {a:Int} (h:o.place a<o.blocks.length):gI o.blocks (o.place a)=a:=by
 have:=(dQ (fun k=>gI o.blocks k == a) o.blocks.length).2 h;simpa [Th.place] using this
theorem Th.aBw {o:Th} {a:Int} {m:Nat} (y:m<o.blocks.length) (e:gI o.blocks m=a):o.place a<o.blocks.length:=
 (aDB (f:=fun k=>gI o.blocks k == a) y (by simp [e])).2.1
theorem Hp.wI {M:Hp} {a h:Int}:M.owns a h=true↔∃ o,M.ob h=some o/\o.place a<o.blocks.length:=by
 unfold Hp.owns
 cases M.ob h with
 | none=>simp
 | some o=>simp
theorem Hp.Ok.aBz (hk:M.Ok) {a:Int} (y:M.ob h=some o) (z:o.place a<o.blocks.length):M.owner a<192/\(M.owner a:Int)+1=h:=by
 have hr:=hk.hr h o y;have h1:M.owns a (((h.toNat - 1:Nat):Int)+1)=true:=Hp.wI.2 ⟨o,by rw [show ((h.toNat - 1:Nat):Int)+1=h by omega];exact y,z⟩;have d:=aDB (f:=fun k=>M.owns a ((k:Int)+1)) (k:=h.toNat - 1) (m:=192) (by omega) h1;refine ⟨d.2.1,?_⟩;obtain ⟨o',h3,e⟩:=Hp.wI.1 d.2.2;exact (hk.dj _ o' h3 h o y _ e _ z (by rw [Th.oJ e,Th.oJ z])).1
theorem Hp.Ok.fD (z:M.Ok) (he:M.P.move.2.2.1=0) (ho:M.ob h=some o) {k:Nat} (y5:k<o.blocks.length) (y3:gI o.blocks k=M.P.move.1):(Hp.fD M.P.move.2.2.2 M.ob h o k M.P.move.2.1).Ok:=by
 have x3:=z.p.move;obtain ⟨to,y2⟩:∃ t,t=M.P.move.2.1:=⟨_,rfl⟩;obtain ⟨Q,hQ⟩:∃ Q,Q=M.P.move.2.2.2:=⟨_,rfl⟩;have x7:∀ y o',M.ob y=some o'->∀ m,m<o'.blocks.length->(y=h/\m=k/\Blk Q (gI (aS o'.slots.length) m) to (o'.cell y m))\/(¬ (y=h/\m=k)/\Blk Q (gI (aS o'.slots.length) m) (gI o'.blocks m) (o'.cell y m)):=fun y o' e m hm=>by
  rcases (z.bk y o' e m hm).move z.p (z.isC e hm) with ⟨_,h1,h2⟩|⟨h1,h2⟩
  ·have:=z.dj y o' e h o ho m hm k y5 (by rw [<-h1,y3]);left;exact ⟨this.1,this.2,by rw [hQ,y2];exact h2⟩
  right;refine ⟨fun ⟨e1,e2⟩=>?_,by rw [hQ];exact h2⟩;subst e1;subst e2;rw [ho] at e;cases e
  exact h1 ⟨he,y3.symm⟩
 have x1:∀ y o',M.ob y=some o'->∀ m,m<o'.blocks.length->to≠gI o'.blocks m:=fun y o' e m hm=>by
  rw [y2];exact (z.bk y o' e m hm).yI z.p (z.isC e hm) he
 have h4:∀ m,gI (o.blocks.set k to) m=if m=k then to else gI o.blocks m:=fun m=>rX y5;obtain ⟨y8,y9,y7,z0⟩:=z.aAu ho;have y4:=z.isC ho (m:=0) (by omega);obtain ⟨Q',h9⟩:∃ Q',Q'=if k=0 then Q else (Q.setCell (gI o.blocks 0+(k:Int)) to).2:=⟨_,rfl⟩;have x9:Q'.ok/\Q'.n=M.P.n:=by
  rw [h9];split
  ·rw [hQ];exact ⟨x3.1,x3.2⟩
  rw [hQ];exact ⟨(x3.1.setCell _ _).1,(x3.1.setCell _ _).2.trans x3.2⟩
 have y6:k≠0->k<bsz (gI (aS o.slots.length) 0):=fun h0=>by
  have h7:=y7.1 (by omega);rw [lC,rZ h7];show k<8;omega
 have x4:k≠0->Blk Q (gI (aS o.slots.length) 0) (gI o.blocks 0) (o.cell h 0):=fun h0=>by
  rcases x7 h o ho 0 (by omega) with ⟨_,h1,_⟩|⟨_,h1⟩
  ·omega
  exact h1
 have h6:∀ y o',M.ob y=some o'->∀ m,m<o'.blocks.length->¬ (y=h/\m=0)->∀ a,Blk Q (gI (aS o'.slots.length) m) a (o'.cell y m)->a≠gI o.blocks 0->Blk Q' (gI (aS o'.slots.length) m) a (o'.cell y m):=fun y o' e m hm hn a hb x2=>by
  rw [h9];split
  ·exact hb
  rename_i h0;have h1:=(x4 h0).apart y4 hb (z.isC e hm) (Ne.symm x2);have h2:=y6 h0;exact hb.setOther (by omega)
 show Hp.Ok ⟨if k=0 then M.P.move.2.2.2 else (M.P.move.2.2.2.setCell (gI o.blocks 0+(k:Int)) M.P.move.2.1).2,dZ M.ob h (some (o.moved k M.P.move.2.1))⟩;rw [<-y2,<-hQ,<-h9];refine ⟨x9.1,by show 1<=Q'.n;rw [x9.2];exact z.n1,by show Q'.n<=24;rw [x9.2];exact z.n24,fun y o' e'=>?_,fun y o' e'=>?_,fun y o' e'=>?_,fun y o' e' m hm=>?_,fun a1 o1 e1 a2 o2 e2 m hm m' h3 em=>?_,fun y o' e' s' hs'=>?_⟩
 ·rcases aW e' with ⟨rfl,_⟩|⟨_,e2⟩
  ·exact z.hr y o ho
  exact z.hr y o' e2
 ·rcases aW e' with ⟨_,rfl⟩|⟨_,e2⟩
  ·exact ⟨(z.th h o ho).kd,(z.th h o ho).rl⟩
  exact z.th y o' e2
 ·rcases aW e' with ⟨_,rfl⟩|⟨_,e2⟩
  ·show (o.blocks.set k to).length=_;rw [List.length_set];exact z.bl h o ho
  exact z.bl y o' e2
 ·rcases aW e' with ⟨rfl,rfl⟩|⟨x2,e2⟩
  ·have h3:m<o.blocks.length:=by simpa [Th.moved] using hm
   show Blk Q' (gI (aS o.slots.length) m) (gI (o.blocks.set k to) m) _;have h5:∀ x,(m≠0\/(x≠k\/k=0))->(o.moved k to).cell y m x=o.cell y m x:=fun x hx=>by
    unfold Th.cell Th.moved;simp only [List.length_set,h4]
    by_cases em:m=0
    ·rw [if_pos em,if_pos em]
     by_cases ex:x=0
     ·rw [if_pos ex,if_pos ex]
     rw [if_neg ex,if_neg ex]
     by_cases e1:1<o.blocks.length
     ·rw [if_pos e1,if_pos e1,if_neg (by omega)]
     rw [if_neg e1,if_neg e1]
    rw [if_neg em,if_neg em]
   by_cases em:m=0
   ·subst em
    by_cases h0:k=0
    ·subst h0;rw [h4,if_pos rfl,h9,if_pos rfl];rcases x7 y o ho 0 h3 with ⟨_,_,h1⟩|⟨h1,_⟩
     ·exact h1.aLm (fun x _=>h5 x (.inr (.inr rfl)))
     exact absurd ⟨rfl,rfl⟩ h1
    rw [h4,if_neg (Ne.symm h0),h9,if_neg h0];have h1:=((x4 h0).put y4 (y6 h0) to).2;refine h1.aLm (fun x _=>?_)
    by_cases ex:x=k
    ·rw [ex,bM];unfold Th.cell Th.moved;simp only [List.length_set,h4];simp only [if_true];rw [if_neg h0,if_pos (by omega)]
    rw [aU _ _ ex];exact h5 x (.inr (.inl ex))
   refine Blk.aLm (v:=o.cell y m) ?_ (fun x _=>h5 x (.inl em));rw [h4];rcases x7 y o ho m h3 with ⟨_,h1,h2⟩|⟨h1,h2⟩
   ·rw [if_pos h1];exact h6 y o ho m h3 (fun e3=>em e3.2) to h2 (x1 y o ho 0 (by omega))
   rw [if_neg (fun e3=>h1 ⟨rfl,e3⟩)];exact h6 y o ho m h3 (fun e3=>em e3.2) _ h2 (fun e3=>em (z.dj y o ho y o ho m h3 0 (by omega) e3).2)
  rcases x7 y o' e2 m hm with ⟨h1,_⟩|⟨_,h2⟩
  ·exact absurd h1 x2
  exact h6 y o' e2 m hm (fun e3=>x2 e3.1) _ h2 (fun e3=>x2 (z.dj y o' e2 h o ho m hm 0 (by omega) e3).1)
 ·rcases aW e1 with ⟨rfl,rfl⟩|⟨n1,y0⟩
  ·have y1:m<o.blocks.length:=by simpa [Th.moved] using hm
   have h8:gI (o.blocks.set k to) m=gI o2.blocks m':=em;rcases aW e2 with ⟨rfl,rfl⟩|⟨n2,x6⟩
   ·have x8:m'<o.blocks.length:=by simpa [Th.moved] using h3
    have d:gI (o.blocks.set k to) m=gI (o.blocks.set k to) m':=em;rw [h4,h4] at d;refine ⟨rfl,?_⟩
    by_cases k1:m=k
    ·by_cases k2:m'=k
     ·omega
     rw [if_pos k1,if_neg k2] at d;exact absurd d (x1 _ o ho m' x8)
    by_cases k2:m'=k
    ·rw [if_neg k1,if_pos k2] at d;exact absurd d.symm (x1 _ o ho m y1)
    rw [if_neg k1,if_neg k2] at d;exact (z.dj _ o ho _ o ho m y1 m' x8 d).2
   rw [h4] at h8
   by_cases k1:m=k
   ·rw [if_pos k1] at h8;exact absurd h8 (x1 _ o2 x6 m' h3)
   rw [if_neg k1] at h8;exact z.dj _ o ho _ o2 x6 m y1 m' h3 h8
  rcases aW e2 with ⟨rfl,rfl⟩|⟨n2,x6⟩
  ·have x8:m'<o.blocks.length:=by simpa [Th.moved] using h3
   have d:gI o1.blocks m=gI (o.blocks.set k to) m':=em;rw [h4] at d
   by_cases k2:m'=k
   ·rw [if_pos k2] at d;exact absurd d.symm (x1 _ o1 y0 m hm)
   rw [if_neg k2] at d;exact z.dj _ o1 y0 _ o ho m hm m' x8 d
  exact z.dj _ o1 y0 _ o2 x6 m hm m' h3 em
 have x5:∀ k',(M.ob k').isSome=true->(dZ M.ob h (some (o.moved k to)) k').isSome=true:=fun k' hks=>by
  by_cases ek:k'=h
  ·rw [ek,aY];rfl
  rw [bD _ _ ek];exact hks
 rcases aW e' with ⟨rfl,rfl⟩|⟨_,e2⟩
 ·exact Hp.Ok.lI (z.sl y o ho s' hs') x5
 exact Hp.Ok.lI (z.sl y o' e2 s' hs') x5
theorem Hp.Ok.move (y:M.Ok):M.move.2.2.Ok:=by
 unfold Hp.move;split
 ·rename_i he
  cases eo:M.ob ((M.owner M.P.move.1:Int)+1) with
  | none=>
   show Hp.Ok ⟨M.P.move.2.2.2,M.ob⟩;refine ⟨y.p.move.1,by rw [y.p.move.2];exact y.n1,by rw [y.p.move.2];exact y.n24,y.hr,y.th,y.bl,fun h' o' e m z=>?_,y.dj,y.sl⟩;rcases (y.bk h' o' e m z).move y.p (y.isC e z) with ⟨_,d,_⟩|⟨_,h2⟩
   ·have:=y.aBz e (Th.aBw z d.symm);rw [this.2,e] at eo;cases eo
   exact h2
  | some o=>
   by_cases hl:M.owner M.P.move.1<192
   ·have hd:decide (M.owner M.P.move.1<192)=true:=by simpa using hl
    rw [hd];have d:=(dQ (fun k=>M.owns M.P.move.1 ((k:Int)+1)) 192).2 hl;obtain ⟨o',h2,h3⟩:=Hp.wI.1 d;have h4:M.ob ((M.owner M.P.move.1:Int)+1)=some o':=h2;rw [eo] at h4;cases h4
    exact y.fD he eo h3 (Th.oJ h3)
   have hd:decide (M.owner M.P.move.1<192)=false:=by simpa using hl
   rw [hd];show Hp.Ok ⟨M.P.move.2.2.2,M.ob⟩;refine ⟨y.p.move.1,by rw [y.p.move.2];exact y.n1,by rw [y.p.move.2];exact y.n24,y.hr,y.th,y.bl,fun h' o' e m z=>?_,y.dj,y.sl⟩;rcases (y.bk h' o' e m z).move y.p (y.isC e z) with ⟨_,d,_⟩|⟨_,h2⟩
   ·exact absurd (y.aBz e (Th.aBw z d.symm)).1 hl
   exact h2
 exact y
theorem Hp.oM {n:Nat} {h:Int} {o:Th} (e:(Hp.new n).ob h=some o):False:=by cases e
theorem Hp.Ok.new {n:Nat} (z:1<=n) (y:n<=24):(Hp.new n).Ok:=
 ⟨Pl.aBf n,z,y,fun _ _ e=>(Hp.oM e).elim,fun _ _ e=>(Hp.oM e).elim,fun _ _ e=>(Hp.oM e).elim,fun _ _ e=>(Hp.oM e).elim,fun _ _ e=>(Hp.oM e).elim,fun _ _ e=>(Hp.oM e).elim⟩
end
def qL (P:Pl) (o:Th):Nat->Pl
 | 0=>P
 | k+1=>((qL P o k).setCell (gI o.blocks 0+((k+1:Nat):Int)) (gI o.blocks (k+1))).2
def aDW (P:Pl) (o:Th):Nat->Pl
 | 0=>P
 | k+1=>((aDW P o k).setCell (o.addr k) (gI o.slots k)).2
def uG (P:Pl) (h:Int) (o:Th):Pl:=(P.setCell (gI o.blocks 0) h).2
def Th.lay (o:Th) (P:Pl) (h:Int):Pl:=aDW (qL (uG P h o) o (o.blocks.length - 1)) o o.slots.length
theorem aFN {P:Pl} (z:P.ok) (h:Int) (o:Th) (j i:Nat):(aDW (qL (uG P h o) o j) o i).ok/\(aDW (qL (uG P h o) o j) o i).n=P.n:=by
 have d:=z.setCell (gI o.blocks 0) h;have e:(qL (uG P h o) o j).ok/\(qL (uG P h o) o j).n=P.n:=by
  induction j with
  | zero=>exact d
  | succ j y=>exact ⟨(y.1.setCell _ _).1,(y.1.setCell _ _).2.trans y.2⟩
 induction i with
 | zero=>exact e
 | succ i y=>exact ⟨(y.1.setCell _ _).1,(y.1.setCell _ _).2.trans y.2⟩
theorem yT {P:Pl} {o:Th} {n:Nat} (h:∀ k,1<=k->k<=n->P.cell (gI o.blocks 0+(k:Int))=(gI o.blocks k,0)):qL P o n=P:=by
 induction n with
 | zero=>rfl
 | succ n z=>
  unfold qL;rw [z (fun k y d=>h k y (by omega))];exact (Pl.eX (h (n+1) (by omega) (by omega))).1
theorem rE {P:Pl} {o:Th} {n:Nat} (h:∀ s,s<n->P.cell (o.addr s)=(gI o.slots s,0)):aDW P o n=P:=by
 induction n with
 | zero=>rfl
 | succ n y=>
  unfold aDW;rw [y (fun s hs=>h s (by omega))];exact (Pl.eX (h n (by omega))).1
theorem aMu {P P':Pl} {o:Th} {n k0:Nat} (h1:1<=k0) (h2:k0<=n) (he:P'=(P.setCell (gI o.blocks 0+(k0:Int)) (gI o.blocks k0)).2)
  (d:∀ k,1<=k->k<k0->P.cell (gI o.blocks 0+(k:Int))=(gI o.blocks k,0)) (hb:∀ k,k0<k->k<=n->P'.cell (gI o.blocks 0+(k:Int))=(gI o.blocks k,0)):qL P o n=P':=by
 induction n with
 | zero=>omega
 | succ n ih=>
  unfold qL
  by_cases e:k0=n+1
  ·rw [yT (fun k y z=>d k y (by omega)),he,e]
  rw [ih (by omega) (fun k y z=>hb k y (by omega))];exact (Pl.eX (hb (n+1) (by omega) (by omega))).1
theorem aMs {P P':Pl} {o:Th} {n y:Nat} (h2:y<n) (he:P'=(P.setCell (o.addr y) (gI o.slots y)).2)
  (ha:∀ s,s<y->P.cell (o.addr s)=(gI o.slots s,0)) (hb:∀ s,y<s->s<n->P'.cell (o.addr s)=(gI o.slots s,0)):aDW P o n=P':=by
 induction n with
 | zero=>omega
 | succ n ih=>
  unfold aDW
  by_cases e:y=n
  ·rw [rE (fun s d=>ha s (by omega)),he,e]
  rw [ih (by omega) (fun s z d=>hb s z (by omega))];exact (Pl.eX (hb n (by omega) (by omega))).1
section
variable {M:Hp} {h:Int} {o:Th}
theorem Hp.Ok.aOH (z:M.Ok) (d:M.ob h=some o) {s:Nat} (hs:s<o.slots.length) {v:Int} (hf:M.fits (gB o.refs s) v=true):(o.put s v).lay M.P h=(M.P.setCell (o.addr s) v).2:=by
 have h0:=z.put d hs hf;have h4:(⟨(M.P.setCell (o.addr s) v).2,dZ M.ob h (some (o.put s v))⟩:Hp).ob h=some (o.put s v):=aY _ _ _;have e:∀ x,gI (o.put s v).slots x=if x=s then v else gI o.slots x:=fun x=>rX hs;have y:(o.put s v).slots.length=o.slots.length:=by simp [Th.put]
 unfold Th.lay;have e1:uG M.P h (o.put s v)=M.P:=(Pl.eX (z.aFR d)).1;have e2:qL M.P (o.put s v) ((o.put s v).blocks.length - 1)=M.P:=yT (fun k h1 h2=>z.aBE d h1 (by have:=z.aAu d;show k<o.blocks.length;have h3:(o.put s v).blocks.length=o.blocks.length:=rfl;omega));rw [e1,e2,y];refine aMs hs ?_ (fun s' h1=>?_) (fun s' h1 h2=>?_)
 ·show _=(M.P.setCell (o.addr s) (gI (o.put s v).slots s)).2;rw [e,if_pos rfl]
 ·have:=(z.kM d (s:=s') (by omega)).1;rw [e,if_neg (by omega)];exact this
 exact (h0.kM h4 (s:=s') (by rw [y];exact h2)).1
theorem Hp.Ok.aJR (hk:M.Ok) (he:M.P.move.2.2.1=0) (ho:M.ob h=some o) {k:Nat} (h4:k<o.blocks.length) (h5:gI o.blocks k=M.P.move.1) :
  (o.moved k M.P.move.2.1).lay M.P.move.2.2.2 h=(Hp.fD M.P.move.2.2.2 M.ob h o k M.P.move.2.1).P:=by
 have y:=hk.fD he ho h4 h5
 have z:(Hp.fD M.P.move.2.2.2 M.ob h o k M.P.move.2.1).ob h=some (o.moved k M.P.move.2.1):=aY _ _ _;have h3:∀ m,gI (o.moved k M.P.move.2.1).blocks m=if m=k then M.P.move.2.1 else gI o.blocks m:=fun m=>rX h4;have d:(o.moved k M.P.move.2.1).blocks.length=o.blocks.length:=by simp [Th.moved]
 have h9:=hk.aAu ho;have h6:=hk.isC ho (m:=0) (by omega);unfold Th.lay
 by_cases h0:k=0
 ·subst h0;have eP:(Hp.fD M.P.move.2.2.2 M.ob h o 0 M.P.move.2.1).P=M.P.move.2.2.2:=rfl;rw [<-eP];have e1:uG (Hp.fD M.P.move.2.2.2 M.ob h o 0 M.P.move.2.1).P h (o.moved 0 M.P.move.2.1)=(Hp.fD M.P.move.2.2.2 M.ob h o 0 M.P.move.2.1).P:=(Pl.eX (y.aFR z)).1;rw [e1,yT (fun j h1 h2=>y.aBE z h1 (by rw [d] at h2 ⊢;omega)),rE (fun s hs=>(y.kM z hs).1)];rfl
 have eP:(Hp.fD M.P.move.2.2.2 M.ob h o k M.P.move.2.1).P=(M.P.move.2.2.2.setCell (gI o.blocks 0+(k:Int)) M.P.move.2.1).2:=if_neg h0;have e:gI (o.moved k M.P.move.2.1).blocks 0=gI o.blocks 0:=by rw [h3,if_neg (Ne.symm h0)]
 have hB:Blk M.P.move.2.2.2 (gI (aS o.slots.length) 0) (gI o.blocks 0) (o.cell h 0):=by
  rcases (hk.bk h o ho 0 (by omega)).move hk.p h6 with ⟨_,h1,_⟩|⟨_,h2⟩
  ·exact absurd (hk.dj h o ho h o ho k h4 0 (by omega) (by rw [h5,h1])).2 h0
  exact h2
 have h7:=h9.2.2.1.1 (by omega);have h8:bsz (gI (aS o.slots.length) 0)=8:=by rw [lC,rZ h7];rfl
 have hx:∀ x:Nat,x<8->M.P.move.2.2.2.cell (gI o.blocks 0+(x:Int))=(o.cell h 0 x,0):=fun x hx=>(hB.tells h6 (by omega)).2;have e1:uG M.P.move.2.2.2 h (o.moved k M.P.move.2.1)=M.P.move.2.2.2:=by
  refine (Pl.eX ?_).1;rw [e];have:=hx 0 (by omega);simpa [Th.cell] using this
 rw [e1,d];have e2:qL M.P.move.2.2.2 (o.moved k M.P.move.2.1) (o.blocks.length - 1)=(Hp.fD M.P.move.2.2.2 M.ob h o k M.P.move.2.1).P:=by
  refine aMu (k0:=k) (by omega) (by omega) ?_ (fun j h1 h2=>?_) (fun j h1 h2=>y.aBE z (by omega) (by rw [d];omega))
  ·rw [eP,e,h3,if_pos rfl]
  rw [e,h3,if_neg (by omega),hx j (by omega)];unfold Th.cell;rw [if_pos rfl,if_neg (by omega),if_pos (by omega)]
 rw [e2];exact rE (fun s hs=>(y.kM z hs).1)
theorem aMt {P:Pl} {o:Th} (n:Nat):qL P o n=vN P (gI o.blocks 0+1) (o.blocks.drop 1) n:=by
 induction n with
 | zero=>rfl
 | succ n y=>
  unfold qL vN;rw [y,show gI o.blocks 0+((n+1:Nat):Int)=gI o.blocks 0+1+(n:Int) by omega];congr 2;unfold gI;rw [List.getElem?_drop,Nat.add_comm]
theorem aJS {P:Pl} {o:Th} (h:Int):qL (uG P h o) o (o.blocks.length - 1)=fK P h o.blocks:=by
 unfold fK uG;exact aMt _
theorem Hp.Ok.aOI {hN:Int} {Q:Pl} (y:(⟨fK Q hN o.blocks,dZ M.ob hN (some o)⟩:Hp).Ok):o.lay Q hN=fK Q hN o.blocks:=by
 unfold Th.lay;rw [aJS];exact rE (fun s hs=>(y.kM (aY _ _ _) hs).1)
end
end Go.Proofs.YthflghdaejbdkaaGreat
