/- Lemmas of this claim. -/
import Derived.Deep.DeepFit
import Derived.Test.YthflghdaejbdkaaGreatXbQModel
import Derived.Test.YthflghdaejbdkaaGreatRows
import Derived.Test.YthflghdaejbdkaaGreatXbLib
import Derived.IntWalk
namespace Go.Proofs.YthflghdaejbdkaaGreat
open _root_.Go.Proofs.Tryz (prog)
set_option linter.unusedVariables false
def Blk (P:Pl) (c a:Int) (v:Nat->Int):Prop:=∃ i k,a=((16*i+k*bsz c:Nat):Int)/\P.Holds c i k v
section
variable {P:Pl} {c a:Int} {v:Nat->Int}
theorem Blk.aLx (h:Blk P c a v) {y:Nat->Int} (e:∀ x,x<bsz c->y x=v x):Blk P c a y:=by
 obtain ⟨i,k,z,d⟩:=h;exact ⟨i,k,z,d.upto e⟩
theorem Blk.range (h:Blk P c a v) (z:IsC c):0<=a/\a+(bsz c:Int)<=16*(P.n:Int):=by
 obtain ⟨i,k,rfl,y⟩:=h;have d:=y.hi;have e:=(z.blk y.kb).1;omega
theorem Blk.tells (h:Blk P c a v) (y:IsC c) {x:Nat} (hx:x<bsz c):P.begin (a+(x:Int))=(a,0)/\P.cell (a+(x:Int))=(v x,0):=by
 obtain ⟨i,k,rfl,z⟩:=h;have:=z.tells y hx;rw [Int.natCast_add] at this;exact this
theorem Blk.begin (h:Blk P c a v) (y:IsC c):P.begin a=(a,0):=by
 have:=(h.tells y (x:=0) (by have:=y.sz;omega)).1;simpa using this
theorem Blk.apart {c' d:Int} {v':Nat->Int} (h:Blk P c a v) (hc:IsC c) (h':Blk P c' d v') (h0:IsC c') (h4:a≠d):a+(bsz c:Int)<=d\/d+(bsz c':Int)<=a:=by
 obtain ⟨i,k,rfl,hh⟩:=h;obtain ⟨i',k',rfl,z⟩:=h';have h1:=hc.blk hh.kb;have h2:=h0.blk z.kb
 by_cases e:i=i'
 ·subst e;obtain rfl:c=c':=by rw [<-hh.cls,z.cls]
  by_cases ek:k=k'
  ·subst ek;exact absurd rfl h4
  rcases hc.facts with ⟨y,_⟩|⟨y,_⟩|⟨y,_⟩<;>rw [y] at *<;>omega
 rcases Nat.lt_or_ge i i' with y|y
 ·left;omega
 right;omega
theorem Blk.alloc (y:P.ok) (h:Blk P c a v) (d:IsC c) (cl:Int):Blk (P.alloc cl).2.2 c a v:=by
 obtain ⟨i,k,z,e⟩:=h;exact ⟨i,k,z,e.alloc y d cl⟩
theorem Blk.free (h:Blk P c a v) (z:IsC c) {b:Int} (y:b≠a):Blk (P.free b).2 c a v:=by
 obtain ⟨i,k,rfl,d⟩:=h;exact ⟨i,k,rfl,d.free z y⟩
theorem Blk.setOther (h:Blk P c a v) {b n:Int} (hb:b<a\/a+(bsz c:Int)<=b):Blk (P.setCell b n).2 c a v:=by
 obtain ⟨i,k,rfl,y⟩:=h;exact ⟨i,k,rfl,y.setCell (by omega)⟩
theorem Blk.put (h:Blk P c a v) (y:IsC c) {x:Nat} (hx:x<bsz c) (n:Int):(P.setCell (a+(x:Int)) n).1=0/\Blk (P.setCell (a+(x:Int)) n).2 c a (up v x n):=by
 obtain ⟨i,k,rfl,z⟩:=h;have:=z.put y hx n;rw [Int.natCast_add] at this;exact ⟨this.1,i,k,rfl,this.2⟩
theorem Blk.new (y:P.ok) (e:IsC c) (he:(P.alloc c).2.1=0):Blk (P.alloc c).2.2 c (P.alloc c).1 (fun _=>0):=by
 obtain ⟨i,k,z,d⟩:=Pl.aFt y e he;exact ⟨i,k,z,d⟩
theorem Blk.fresh (h3:P.ok) {z:Int} (y:IsC z) (he:(P.alloc z).2.1=0) (h:Blk P c a v) (hc:IsC c):(P.alloc z).1≠a:=by
 obtain ⟨i,k,rfl,hh⟩:=h;have h1:=hc.blk hh.kb;have s1:=hc.sz;have s2:=y.sz;intro e;rcases P.gX z with hb|⟨_,⟨j,hj,d,hb⟩|⟨hn,⟨j,hj,d,hb⟩|hf⟩⟩
 ·exact absurd hb (uQ.2 y)
 ·rw [Pl.fQ y hj d hb] at e;have hg:=(h3 j hj).gap y d;have h2:=y.blk hg.1;have e':16*j+(P.pg j).gap z*bsz z=16*i+k*bsz c:=Int.ofNat.inj e;obtain rfl:j=i:=by omega
  have h0:z=c:=by rw [<-hh.cls,(Pg.bF.1 d).1]
  subst h0;have:=hc.blocks (k:=(P.pg j).gap z) (l:=k) (by omega);rw [this,hh.used] at hg
  cases hg.2
 ·rw [Pl.iM y hn hj d hb] at e;have e':16*j=16*i+k*bsz c:=Int.ofNat.inj e;obtain rfl:j=i:=by omega
  rw [hh.cls] at d;rcases hc with e2|e2|e2<;>omega
 rw [Pl.fU y hn hf] at he
 cases he
theorem Blk.move (d:P.ok) (h:Blk P c a v) (hc:IsC c) :
  (P.move.2.2.1=0/\P.move.1=a/\Blk P.move.2.2.2 c P.move.2.1 v)\/(¬ (P.move.2.2.1=0/\P.move.1=a)/\Blk P.move.2.2.2 c a v):=by
 obtain ⟨i,k,rfl,hh⟩:=h;rcases hh.move d hc with ⟨y,z,i',k',e,h4⟩|⟨y,z⟩
 ·exact .inl ⟨y,z,i',k',e,h4⟩
 exact .inr ⟨y,i,k,rfl,z⟩
theorem Blk.yT (h3:P.ok) (h:Blk P c a v) (d:IsC c) (he:P.move.2.2.1=0):P.move.2.1≠a:=by
 obtain ⟨i,k,rfl,hh⟩:=h
 cases hp:P.pair with
 | none=>rw [Pl.dF hp] at he;cases he
 | some x=>
  obtain ⟨f,t⟩:=x;have y:=Pl.eH hp;rw [Pl.dK hp];intro e;have z:=(h3 t y.hj).gap y.c y.pj;have e':16*t+(P.pg t).gap (P.pg t).cls*bsz (P.pg f).cls=16*i+k*bsz c:=Int.ofNat.inj e;rw [y.same] at e';have h1:=y.c.blk z.1;have h2:=d.blk hh.kb;have s1:=y.c.sz;have s2:=d.sz;obtain rfl:t=i:=by omega
  have h0:(P.pg f).cls=c:=by rw [<-hh.cls,y.same]
  rw [h0] at z e';have:=d.blocks (k:=(P.pg t).gap c) (l:=k) (by omega);rw [this,hh.used] at z
  cases z.2
theorem Pl.fD {P:Pl} {a n:Int} (h:P.cell a=(n,0)):(P.setCell a n).2=P/\(P.setCell a n).1=0:=by
 have hb:(P.begin a).2=0:=by
  unfold Pl.cell at h;split at h
  ·assumption
  rename_i y;exact absurd (congrArg Prod.snd h) y
 have z:(P.pg (a.toNat / 16)).cell (a.toNat % 16)=n:=by
  unfold Pl.cell at h;rw [if_pos hb] at h;exact congrArg Prod.fst h
 unfold Pl.setCell;rw [if_pos hb];refine ⟨?_,rfl⟩;have e:({ P.pg (a.toNat / 16) with cell:=up (P.pg (a.toNat / 16)).cell (a.toNat % 16) n }:Pg)=P.pg (a.toNat / 16):=by
  have:up (P.pg (a.toNat / 16)).cell (a.toNat % 16) n=(P.pg (a.toNat / 16)).cell:=by
   funext j
   by_cases e:j=a.toNat % 16
   ·rw [e,bP,z]
   rw [aV _ _ e]
  rw [this]
 show P.set (a.toNat / 16) _=P;rw [e];unfold Pl.set;have:up P.pg (a.toNat / 16) (P.pg (a.toNat / 16))=P.pg:=by
  funext j
  by_cases e:j=a.toNat / 16
  ·rw [e,bP]
  rw [aV _ _ e]
 rw [this]
end
def gB (l:List Bool) (i:Nat):Bool:=l[i]?.getD false
structure Th where
 kind:Int
 cls:Int
 refs:List Bool
 slots:List Int
 blocks:List Int
structure Hp where
 P:Pl
 ob:Int->Option Th
def eU (f:Int->Option Th) (h:Int) (o:Option Th):Int->Option Th:=fun j=>if j=h then o else f j
theorem aZ (f:Int->Option Th) (h:Int) (o:Option Th):eU f h o h=o:=if_pos rfl
theorem bD (f:Int->Option Th) {h j:Int} (o:Option Th) (e:j≠h):eU f h o j=f j:=if_neg e
theorem aW {f:Int->Option Th} {h j:Int} {o t:Th} (e:eU f h (some o) j=some t):(j=h/\t=o)\/(j≠h/\f j=some t):=by
 unfold eU at e
 by_cases y:j=h
 ·rw [if_pos y] at e;cases e;exact .inl ⟨y,rfl⟩
 rw [if_neg y] at e;exact .inr ⟨y,e⟩
def nG (n:Nat):Int:=if n<=2 then 0 else if n<=4 then 1 else 2
def aT (n:Nat):List Int:=nG (1+n) :: (if 7<n then List.replicate ((n+7) / 8) 2 else [])
theorem aGk (n:Nat):IsC (nG n):=by unfold nG IsC;split;simp;split<;>simp
theorem aKL {n:Nat} (h:n<=7):1+n<=bsz (nG (1+n)):=by
 unfold nG;split
 ·show 1+n<=2;omega
 split
 ·show 1+n<=4;omega
 show 1+n<=8;omega
theorem sU {n:Nat} (h:7<n):nG (1+n)=2:=by unfold nG;rw [if_neg (by omega),if_neg (by omega)]
theorem nZ (n:Nat):(aT n).length=if 7<n then 1+(n+7) / 8 else 1:=by
 unfold aT;split<;>simp
 omega
theorem lI (n:Nat):gI (aT n) 0=nG (1+n):=rfl
theorem uG {n m:Nat} (z:1<=m) (y:m<(aT n).length):7<n/\gI (aT n) m=2:=by
 rw [nZ] at y
 by_cases h:7<n
 ·rw [if_pos h] at y;refine ⟨h,?_⟩;unfold aT gI;rw [if_pos h];obtain ⟨k,rfl⟩:∃ k,m=k+1:=⟨m - 1,by omega⟩;rw [List.getElem?_cons_succ,List.getElem?_replicate,if_pos (by omega)];rfl
 rw [if_neg h] at y;omega
theorem dP (n:Nat) {m:Nat} (z:m<(aT n).length):IsC (gI (aT n) m):=by
 by_cases y:1<=m
 ·rw [(uG y z).2];exact .inr (.inr rfl)
 obtain rfl:m=0:=by omega
 exact aGk _
theorem wU (n:Nat) (h:n<=48):(aT n).length<=7:=by rw [nZ];split<;>omega
theorem kC (n:Nat):1<=(aT n).length:=by rw [nZ];split<;>omega
def dH (P:Pl) (l:List Int):Nat->Option (List Int×Pl)
 | 0=>some ([],P)
 | k+1=>match dH P l k with
  | some (bs,Q)=>if (Q.alloc (gI l k)).2.1=0 then some (bs ++ [(Q.alloc (gI l k)).1],(Q.alloc (gI l k)).2.2) else none
  | none=>none
def vX (P:Pl) (a:Int) (l:List Int):Nat->Pl
 | 0=>P
 | k+1=>((vX P a l k).setCell (a+(k:Int)) (gI l k)).2
def fK (P:Pl) (h:Int) (bs:List Int):Pl:=vX ((P.setCell (gI bs 0) h).2) (gI bs 0+1) (bs.drop 1) (bs.length - 1)
def Hp.least (M:Hp):Nat:=fst (fun k=>(M.ob ((k:Int)+1)).isNone) 192
def Hp.add (M:Hp) (o:Th):Int×Int×Hp:=
 if M.least<192 then
  match dH M.P (aT o.slots.length) (aT o.slots.length).length with
  | some (bs,Q)=>((M.least:Int)+1,0,⟨fK Q ((M.least:Int)+1) bs,eU M.ob ((M.least:Int)+1) (some { o with blocks:=bs })⟩)
  | none=>(0,14,M)
 else (0,14,M)
def vS (c:Int) (y:List Bool):Th:=⟨2,c,y,List.replicate y.length 0,[]⟩
def qO (k c:Int) (n:Nat):Th:=⟨k,c,List.replicate n (decide (k=4)),List.replicate n 0,[]⟩
def Hp.aH (M:Hp) (c:Int) (y:List Bool):Int×Int×Hp:=
 if c<0\/10<=c\/7<y.length then (0,1,M) else M.add (vS c y)
def Hp.aG (M:Hp) (k c n:Int):Int×Int×Hp:=
 if n<0\/48<n then (0,1,M)
 else if (k=3/\c=0)\/(k=4/\0<=c/\c<10) then M.add (qO k c n.toNat) else (0,1,M)
def Th.addr (o:Th) (s:Nat):Int:=if 1<o.blocks.length then gI o.blocks (1+s / 8)+((s % 8:Nat):Int) else gI o.blocks 0+1+(s:Int)
def Hp.slot (M:Hp) (h s:Int):Int:=match M.ob h with|none=>3|some o=>if s<0\/(o.slots.length:Int)<=s then 1 else 0
def Hp.get (M:Hp) (h s:Int):Int×Int:=match M.ob h with|none=>(0,3)|some o=>if s<0\/(o.slots.length:Int)<=s then (0,1) else (gI o.slots s.toNat,0)
def iY (v:Int):Bool:=decide (-2147483648<=v/\v<=2147483647)
def Hp.fits (M:Hp) (r:Bool) (v:Int):Bool:=if r then (decide (v=0) || (M.ob v).isSome) else iY v
def Th.put (o:Th) (s:Nat) (v:Int):Th:={ o with slots:=o.slots.set s v }
def Hp.set (M:Hp) (h s v:Int):Int×Hp:=match M.ob h with
 | none=>(3,M)
 | some o=>if s<0\/(o.slots.length:Int)<=s then (1,M)
  else if M.fits (gB o.refs s.toNat) v then (0,⟨(M.P.setCell (o.addr s.toNat) v).2,eU M.ob h (some (o.put s.toNat v))⟩) else (1,M)
def Hp.type (M:Hp) (h:Int):Int×Int×Int×Int:=match M.ob h with|none=>(0,0,0,3)|some o=>(o.kind,o.cls,o.slots.length,0)
def Hp.isRef (M:Hp) (h s:Int):Bool×Int:=match M.ob h with|none=>(false,3)|some o=>if s<0\/(o.slots.length:Int)<=s then (false,1) else (gB o.refs s.toNat,0)
def Th.fE (o:Th):Nat->List Int
 | 0=>[]
 | k+1=>o.fE k ++ if gB o.refs k=true/\gI o.slots k≠0 then [gI o.slots k] else []
def Th.fJ (o:Th):List Int:=o.fE o.slots.length
def Hp.refs (M:Hp) (h:Int):List Int×Int:=match M.ob h with|none=>([],3)|some o=>(o.fJ,0)
def Hp.refers (M:Hp) (h k:Int):Bool:=decide (k≠h) && (match M.ob k with|none=>false|some o=>decide (h∈o.fJ))
def Hp.held (M:Hp) (h:Int):Bool:=(List.range 192).any fun k=>M.refers h ((k:Int)+1)
def iL (P:Pl) (l:List Int):Nat->Pl
 | 0=>P
 | k+1=>((iL P l k).free (gI l k)).2
def Hp.drop (M:Hp) (h:Int) (o:Th):Hp:=⟨iL M.P o.blocks o.blocks.length,eU M.ob h none⟩
def Hp.release (M:Hp) (h:Int):Int×Hp:=match M.ob h with
 | none=>(3,M)
 | some o=>if M.held h then (13,M) else (0,M.drop h o)
def Hp.aX (M:Hp):Nat->List Int
 | 0=>[]
 | k+1=>M.aX k ++ if (M.ob ((k:Int)+1)).isSome then [(k:Int)+1] else []
def Hp.handles (M:Hp):List Int:=M.aX 192
def Hp.blocks (M:Hp) (h:Int):List Int×Int:=match M.ob h with|none=>([],3)|some o=>(o.blocks,0)
def Th.place (o:Th) (a:Int):Nat:=fst (fun k=>gI o.blocks k == a) o.blocks.length
def Hp.owns (M:Hp) (a h:Int):Bool:=match M.ob h with|none=>false|some o=>decide (o.place a<o.blocks.length)
def Hp.owner (M:Hp) (a:Int):Nat:=fst (fun k=>M.owns a ((k:Int)+1)) 192
def Th.moved (o:Th) (k:Nat) (y:Int):Th:={ o with blocks:=o.blocks.set k y }
def Hp.eX (Q:Pl) (ob:Int->Option Th) (h:Int) (o:Th) (k:Nat) (y:Int):Hp:=
 ⟨if k=0 then Q else (Q.setCell (gI o.blocks 0+(k:Int)) y).2,eU ob h (some (o.moved k y))⟩
def Hp.move (M:Hp):Int×Int×Hp:=
 if M.P.move.2.2.1=0 then
  match M.ob ((M.owner M.P.move.1:Int)+1),decide (M.owner M.P.move.1<192) with
  | some o,true=>((M.owner M.P.move.1:Int)+1,0,Hp.eX M.P.move.2.2.2 M.ob ((M.owner M.P.move.1:Int)+1) o (o.place M.P.move.1) M.P.move.2.1)
  | _,_=>(0,0,⟨M.P.move.2.2.2,M.ob⟩)
 else (0,M.P.move.2.2.1,M)
def Hp.new (n:Nat):Hp:=⟨Pl.zero n,fun _=>none⟩
def Th.cell (o:Th) (h:Int) (m x:Nat):Int:=
 if m=0 then (if x=0 then h else if 1<o.blocks.length then gI o.blocks x else gI o.slots (x - 1)) else gI o.slots ((m - 1)*8+x)
structure Th.ok1 (o:Th):Prop where
 kd:(o.kind=2/\0<=o.cls/\o.cls<10/\o.slots.length<=7)\/(o.kind=3/\o.cls=0/\o.slots.length<=48/\∀ s,gB o.refs s=false)\/(o.kind=4/\0<=o.cls/\o.cls<10/\o.slots.length<=48/\∀ s,s<o.slots.length->gB o.refs s=true)
 rl:o.refs.length=o.slots.length
structure Hp.Ok (M:Hp):Prop where
 p:M.P.ok
 n1:1<=M.P.n
 n24:M.P.n<=24
 hr:∀ h o,M.ob h=some o->1<=h/\h<=192
 th:∀ h o,M.ob h=some o->o.ok1
 bl:∀ h o,M.ob h=some o->o.blocks.length=(aT o.slots.length).length
 bk:∀ h o,M.ob h=some o->∀ m,m<o.blocks.length->Blk M.P (gI (aT o.slots.length) m) (gI o.blocks m) (o.cell h m)
 dj:∀ h o,M.ob h=some o->∀ h' o',M.ob h'=some o'->∀ m,m<o.blocks.length->∀ m',m'<o'.blocks.length->gI o.blocks m=gI o'.blocks m'->h=h'/\m=m'
 sl:∀ h o,M.ob h=some o->∀ s,s<o.slots.length->M.fits (gB o.refs s) (gI o.slots s)=true
theorem Th.ok1.le {o:Th} (h:o.ok1):o.slots.length<=48:=by rcases h.kd with h|h|h<;>omega
theorem mX {l:List Int} {i j:Nat} {v:Int} (y:i<l.length):gI (l.set i v) j=if j=i then v else gI l j:=by
 unfold gI;rw [List.getElem?_set]
 by_cases e:i=j
 ·subst e;rw [if_pos rfl,if_pos y,if_pos rfl];rfl
 rw [if_neg e,if_neg (Ne.symm e)]
theorem aKG {l:List Int} {x:Int} {j:Nat}:gI (l ++ [x]) j=if j<l.length then gI l j else if j=l.length then x else 0:=by
 unfold gI
 by_cases h:j<l.length
 ·rw [if_pos h,List.getElem?_append_left h]
 rw [if_neg h,List.getElem?_append_right (by omega)]
 by_cases e:j=l.length
 ·rw [if_pos e,e];simp
 rw [if_neg e,List.getElem?_eq_none (by simp;omega)];rfl
theorem aQO {l:List Int} {j:Nat} (h:l.length<=j):gI l j=0:=by unfold gI;rw [List.getElem?_eq_none h];rfl
section
variable {M:Hp} {h:Int} {o:Th}
theorem Hp.Ok.aCn (z:M.Ok) (d:M.ob h=some o):1<=o.blocks.length/\o.blocks.length<=7/\(1<o.blocks.length↔7<o.slots.length)/\(7<o.slots.length->o.blocks.length=1+(o.slots.length+7) / 8):=by
 have y:=z.bl h o d;have e:=(z.th h o d).le;have h3:=wU _ e;rw [nZ] at y h3;split at y<;>(refine ⟨by omega,by omega,by omega,by omega⟩)
theorem Hp.Ok.isC (y:M.Ok) (d:M.ob h=some o) {m:Nat} (z:m<o.blocks.length):IsC (gI (aT o.slots.length) m):=dP _ (by rw [<-y.bl h o d];exact z)
def Th.tV (o:Th) (s:Nat):Nat:=if 1<o.blocks.length then 1+s / 8 else 0
def Th.aBD (o:Th) (s:Nat):Nat:=if 1<o.blocks.length then s % 8 else 1+s
theorem Th.addr_eq (o:Th) (s:Nat):o.addr s=gI o.blocks (o.tV s)+(o.aBD s:Int):=by
 unfold addr tV aBD;split
 ·rfl
 omega
theorem Hp.Ok.aNL (z:M.Ok) (d:M.ob h=some o) {s:Nat} (hs:s<o.slots.length) :
  o.tV s<o.blocks.length/\o.aBD s<bsz (gI (aT o.slots.length) (o.tV s))/\o.cell h (o.tV s) (o.aBD s)=gI o.slots s:=by
 obtain ⟨h1,h2,e,h4⟩:=z.aCn d;unfold Th.tV Th.aBD Th.cell
 by_cases hb:1<o.blocks.length
 ·have y:=e.1 hb;have hl:=h4 y;simp only [hb,if_true];refine ⟨by omega,?_,?_⟩
  ·rw [(uG (by omega) (by rw [<-z.bl h o d];omega)).2];show s % 8<8;omega
  rw [if_neg (by omega)];congr 1;omega
 have y:o.slots.length<=7:=by omega
 simp only [hb,if_false,if_true];refine ⟨by omega,?_,?_⟩
 ·rw [lI];have:=aKL y;omega
 rw [if_neg (by omega)];congr 1;omega
theorem Hp.Ok.kS (y:M.Ok) (z:M.ob h=some o) {s:Nat} (hs:s<o.slots.length):M.P.cell (o.addr s)=(gI o.slots s,0)/\(M.P.begin (o.addr s)).2=0:=by
 obtain ⟨d,e,h3⟩:=y.aNL z hs;have:=(y.bk h o z _ d).tells (y.isC z d) e;rw [Th.addr_eq,<-h3];exact ⟨this.2,by rw [this.1]⟩
theorem Hp.Ok.aGb (y:M.Ok) (z:M.ob h=some o):M.P.cell (gI o.blocks 0)=(h,0):=by
 have hb:=y.aCn z;have d:=y.isC z (m:=0) (by omega);have:=((y.bk h o z 0 (by omega)).tells d (x:=0) (by have:=d.sz;omega)).2;simpa [Th.cell] using this
theorem Hp.Ok.aBU (y:M.Ok) (z:M.ob h=some o) {k:Nat} (h1:1<=k) (h2:k<o.blocks.length):M.P.cell (gI o.blocks 0+(k:Int))=(gI o.blocks k,0):=by
 obtain ⟨h0,h3,d,h4⟩:=y.aCn z;have hc:=y.isC z (m:=0) (by omega);have e:=d.1 (by omega);have:=((y.bk h o z 0 (by omega)).tells hc (x:=k) (by rw [lI,sU e];show k<8;omega)).2;rw [this];unfold Th.cell;rw [if_pos rfl,if_neg (by omega),if_pos (by omega)]
end
structure aRm (P:Pl) (l:List Int) (k:Nat) (bs:List Int) (Q:Pl):Prop where
 ok:Q.ok
 n:Q.n=P.n
 len:bs.length=k
 old:∀ c a v,IsC c->Blk P c a v->Blk Q c a v/\∀ m,m<k->gI bs m≠a
 new:∀ m,m<k->Blk Q (gI l m) (gI bs m) (fun _=>0)
 dj:∀ m,m<k->∀ m',m'<k->gI bs m=gI bs m'->m=m'
theorem eF {P:Pl} (h4:P.ok) {l:List Int} (hl:∀ m,m<l.length->IsC (gI l m)):∀ k,k<=l.length->∀ bs Q,dH P l k=some (bs,Q)->aRm P l k bs Q:=by
 intro k
 induction k with
 | zero=>
  intro _ bs Q e;unfold dH at e
  cases e
  exact ⟨h4,rfl,rfl,fun c a v _ h=>⟨h,fun m hm=>by omega⟩,fun m hm=>by omega,fun m hm=>by omega⟩
 | succ k ih=>
  intro hk bs Q e;unfold dH at e
  cases e1:dH P l k with
  | none=>rw [e1] at e;cases e
  | some x=>
   obtain ⟨z,Q'⟩:=x;rw [e1] at e;simp only at e;split at e
   ·rename_i he
    cases e
    have s:=ih (by omega) z Q' e1;have hc:=hl k (by omega);have y:∀ m,m<k->gI (z ++ [(Q'.alloc (gI l k)).1]) m=gI z m:=fun m hm=>by rw [aKG,if_pos (by rw [s.len];exact hm)]
    have d:gI (z ++ [(Q'.alloc (gI l k)).1]) k=(Q'.alloc (gI l k)).1:=by rw [aKG,if_neg (by rw [s.len];omega),if_pos s.len.symm]
    refine ⟨(s.ok.alloc _).1,(s.ok.alloc _).2.trans s.n,by simp [s.len],fun c a v h0 hb=>?_,fun m hm=>?_,fun m hm m' hm' e2=>?_⟩
    ·obtain ⟨h1,h2⟩:=s.old c a v h0 hb;refine ⟨h1.alloc s.ok h0 _,fun m hm=>?_⟩
     by_cases em:m=k
     ·rw [em,d];exact h1.fresh s.ok hc he h0
     rw [y m (by omega)];exact h2 m (by omega)
    ·by_cases em:m=k
     ·rw [em,d];exact Blk.new s.ok hc he
     rw [y m (by omega)];exact (s.new m (by omega)).alloc s.ok (hl m (by omega)) _
    by_cases em:m=k
    ·by_cases h3:m'=k
     ·omega
     rw [em,d,y m' (by omega)] at e2;exact absurd e2 ((s.new m' (by omega)).fresh s.ok hc he (hl m' (by omega)))
    by_cases h3:m'=k
    ·rw [h3,d,y m (by omega)] at e2;exact absurd e2.symm ((s.new m (by omega)).fresh s.ok hc he (hl m (by omega)))
    rw [y m (by omega),y m' (by omega)] at e2;exact s.dj m (by omega) m' (by omega) e2
   cases e
theorem aCT {P:Pl} (z:P.ok) (a:Int) (l:List Int) (k:Nat):(vX P a l k).ok/\(vX P a l k).n=P.n:=by
 induction k with
 | zero=>exact ⟨z,rfl⟩
 | succ k y=>exact ⟨(y.1.setCell _ _).1,(y.1.setCell _ _).2.trans y.2⟩
theorem aHd {P:Pl} {z y:Int} {d:Nat->Int} (h:Blk P z y d) {a:Int} {l:List Int} {k:Nat} (ha:a+(k:Int)<=y\/y+(bsz z:Int)<=a):Blk (vX P a l k) z y d:=by
 induction k with
 | zero=>exact h
 | succ k e=>exact (e (by omega)).setOther (by omega)
def aRq (v:Nat->Int) (x0:Nat) (l:List Int) (k:Nat):Nat->Int:=fun x=>if x0<=x/\x<x0+k then gI l (x - x0) else v x
theorem aOy {P:Pl} {c b:Int} {v:Nat->Int} (d:IsC c) (h:Blk P c b v) {x0:Nat} {l:List Int} {k:Nat} (hx:x0+k<=bsz c):Blk (vX P (b+(x0:Int)) l k) c b (aRq v x0 l k):=by
 induction k with
 | zero=>exact h.aLx (fun x _=>by unfold aRq;rw [if_neg (by omega)])
 | succ k ih=>
  have z:=((ih (by omega)).put d (x:=x0+k) (by omega) (gI l k)).2;unfold vX;rw [show b+(x0:Int)+(k:Int)=b+((x0+k:Nat):Int) by omega];refine z.aLx (fun x _=>?_);unfold aRq
  by_cases e:x=x0+k
  ·rw [e,bP,if_pos (by omega)];congr 1;omega
  rw [aV _ _ e]
  by_cases y:x0<=x/\x<x0+k
  ·rw [if_pos y,if_pos (by omega)]
  rw [if_neg y,if_neg (by omega)]
theorem aHD {P:Pl} (y:P.ok) (h:Int) (bs:List Int):(fK P h bs).ok/\(fK P h bs).n=P.n:=by
 have z:=aCT (y.setCell (gI bs 0) h).1 (gI bs 0+1) (bs.drop 1) (bs.length - 1);exact ⟨z.1,z.2.trans (y.setCell _ _).2⟩
theorem zG {P:Pl} {c a:Int} {v:Nat->Int} {z:Int} {v0:Nat->Int} (y:IsC z) (hc:IsC c) (h:Int) (bs:List Int) (hb:Blk P z (gI bs 0) v0) (hl:bs.length<=bsz z) (h0:1<=bs.length) (e:Blk P c a v) (d:gI bs 0≠a):Blk (fK P h bs) c a v:=by
 have h1:=hb.apart y e hc d;have s:=y.sz;exact aHd (e.setOther (by omega)) (by omega)
theorem aMM {P:Pl} {z:Int} {v0:Nat->Int} (y:IsC z) (h:Int) (bs:List Int) (hb:Blk P z (gI bs 0) v0) (hl:bs.length<=bsz z) (h0:1<=bs.length) :
  Blk (fK P h bs) z (gI bs 0) (fun x=>if x=0 then h else if x<bs.length then gI bs x else v0 x):=by
 have s:=y.sz;have h1:=(hb.put y (x:=0) (by omega) h).2;simp only [Int.natCast_zero,Int.add_zero] at h1;have h2:=aOy y h1 (x0:=1) (l:=bs.drop 1) (k:=bs.length - 1) (by omega);refine h2.aLx (fun x _=>?_);unfold aRq
 by_cases e:x=0
 ·subst e;rw [if_pos rfl,if_neg (by omega),bP]
 rw [if_neg e]
 by_cases d:x<bs.length
 ·rw [if_pos d,if_pos (by omega)];unfold gI;rw [List.getElem?_drop,show 1+(x - 1)=x by omega]
 rw [if_neg d,if_neg (by omega),aV _ _ e]
section
variable {M:Hp} {h:Int} {o:Th}
theorem Hp.pF (M:Hp) (y:M.least<192):M.ob ((M.least:Int)+1)=none:=by
 have:=(dU (fun k=>(M.ob ((k:Int)+1)).isNone) 192).2 y;simpa [Hp.least] using this
theorem aJH (n:Nat) (y:n<=48):(aT n).length<=bsz (gI (aT n) 0):=by
 rw [lI,nZ]
 by_cases h:7<n
 ·rw [if_pos h,sU h];show _<=8;omega
 rw [if_neg h];have:=(aGk (1+n)).sz;omega
theorem Hp.Ok.lT {ob':Int->Option Th} {P':Pl} {r:Bool} {v:Int} (y:M.fits r v=true) (z:∀ k,(M.ob k).isSome=true->(ob' k).isSome=true):(⟨P',ob'⟩:Hp).fits r v=true:=by
 unfold Hp.fits at y ⊢
 cases r
 ·exact y
 simp only [if_true,Bool.or_eq_true] at y ⊢;exact y.imp id (z v)
theorem Hp.Ok.aDR (r:Bool):M.fits r 0=true:=by unfold Hp.fits;cases r<;>rfl
theorem Hp.Ok.add (y:M.Ok) (ho:o.ok1) (hz:∀ s,gI o.slots s=0):(M.add o).2.2.Ok:=by
 unfold Hp.add;split
 ·rename_i hl;have h8:=M.pF hl;have x3:=ho.le
  cases e:dH M.P (aT o.slots.length) (aT o.slots.length).length with
  | none=>exact y
  | some x=>
   obtain ⟨bs,Q⟩:=x;have s:=eF y.p (l:=aT o.slots.length) (fun m hm=>dP _ hm) _ (Nat.le_refl _) bs Q e;obtain ⟨hN,h9⟩:∃ hN,hN=(M.least:Int)+1:=⟨_,rfl⟩;rw [<-h9] at h8;show Hp.Ok ⟨fK Q ((M.least:Int)+1) bs,eU M.ob ((M.least:Int)+1) (some { o with blocks:=bs })⟩;rw [<-h9];have hp:=kC o.slots.length;have x1:=s.len;have h6:=dP o.slots.length (m:=0) (by omega);have x6:=aJH o.slots.length x3;have h5:=s.new 0 (by omega);have h7:=aHD s.ok hN bs;refine ⟨h7.1,by rw [h7.2,s.n];exact y.n1,by rw [h7.2,s.n];exact y.n24,fun h' o' e'=>?_,fun h' o' e'=>?_,fun h' o' e'=>?_,fun h' o' e' m hm=>?_,fun h1 o1 e1 h2 o2 z m hm m' d em=>?_,fun h' o' e' s' hs=>?_⟩
   ·rcases aW e' with ⟨rfl,_⟩|⟨_,z⟩
    ·omega
    exact y.hr h' o' z
   ·rcases aW e' with ⟨_,rfl⟩|⟨_,z⟩
    ·exact ⟨ho.kd,ho.rl⟩
    exact y.th h' o' z
   ·rcases aW e' with ⟨_,rfl⟩|⟨_,z⟩
    ·exact x1
    exact y.bl h' o' z
   ·rcases aW e' with ⟨rfl,rfl⟩|⟨_,z⟩
    ·have d:m<bs.length:=hm;show Blk _ (gI (aT o.slots.length) m) (gI bs m) _
     by_cases e0:m=0
     ·subst e0;refine (aMM h6 h' bs h5 (by omega) (by omega)).aLx (fun x _=>?_);unfold Th.cell;simp only [if_true]
      by_cases ex:x=0
      ·rw [if_pos ex,if_pos ex]
      rw [if_neg ex,if_neg ex]
      by_cases e1:1<bs.length
      ·rw [if_pos e1]
       by_cases e3:x<bs.length
       ·rw [if_pos e3]
       rw [if_neg e3,aQO (by omega)]
      rw [if_neg e1,if_neg (by omega),hz]
     have h3:=dP o.slots.length (m:=m) (by omega);refine (zG h6 h3 h' bs h5 (by omega) (by omega) (s.new m (by omega)) (fun e3=>e0 (s.dj m (by omega) 0 (by omega) e3.symm))).aLx (fun x _=>?_);unfold Th.cell;rw [if_neg e0];exact hz _
    have h3:=y.isC z hm;obtain ⟨h1,h2⟩:=s.old _ _ _ h3 (y.bk h' o' z m hm);exact zG h6 h3 hN bs h5 (by omega) (by omega) h1 (h2 0 (by omega))
   ·rcases aW e1 with ⟨rfl,rfl⟩|⟨_,h4⟩
    ·rcases aW z with ⟨rfl,rfl⟩|⟨_,h0⟩
     ·have x4:m<bs.length:=hm;have x5:m'<bs.length:=d;exact ⟨rfl,s.dj m (by omega) m' (by omega) em⟩
     have x4:m<bs.length:=hm;exact absurd em ((s.old _ _ _ (y.isC h0 d) (y.bk h2 o2 h0 m' d)).2 m (by omega))
    rcases aW z with ⟨rfl,rfl⟩|⟨_,h0⟩
    ·have x5:m'<bs.length:=d;exact absurd em.symm ((s.old _ _ _ (y.isC h4 hm) (y.bk h1 o1 h4 m hm)).2 m' (by omega))
    exact y.dj h1 o1 h4 h2 o2 h0 m hm m' d em
   rcases aW e' with ⟨rfl,rfl⟩|⟨_,z⟩
   ·show Hp.fits _ (gB o.refs s') (gI o.slots s')=true;rw [hz];exact Hp.Ok.aDR _
   refine Hp.Ok.lT (y.sl h' o' z s' hs) (fun k x2=>?_)
   by_cases ek:k=hN
   ·rw [ek,aZ];rfl
   rw [bD _ _ ek];exact x2
 exact y
theorem qF {c:Int} {y:List Bool} (h:¬ (c<0\/10<=c\/7<y.length)):(vS c y).ok1/\∀ s,gI (vS c y).slots s=0:=by
 refine ⟨⟨.inl ⟨rfl,by show 0<=c;omega,by show c<10;omega,by simp [vS];omega⟩,by simp [vS]⟩,fun s=>?_⟩;unfold vS gI;simp only [List.getElem?_replicate];split<;>rfl
theorem qN {k c n:Int} (h:¬ (n<0\/48<n)) (hk:(k=3/\c=0)\/(k=4/\0<=c/\c<10)):(qO k c n.toNat).ok1/\∀ s,gI (qO k c n.toNat).slots s=0:=by
 have y:∀ s,gB (qO k c n.toNat).refs s=(decide (s<n.toNat) && decide (k=4)):=fun s=>by
  unfold qO gB;simp only [List.getElem?_replicate]
  by_cases e:s<n.toNat
  ·rw [if_pos e];simp [e]
  rw [if_neg e];simp [e]
 refine ⟨⟨?_,by simp [qO]⟩,fun s=>?_⟩
 ·rcases hk with ⟨rfl,rfl⟩|⟨rfl,z,d⟩
  ·exact .inr (.inl ⟨rfl,rfl,by simp [qO];omega,fun s=>by rw [y];simp⟩)
  refine .inr (.inr ⟨rfl,z,d,by simp [qO];omega,fun s hs=>?_⟩);have:s<n.toNat:=by simpa [qO] using hs
  rw [y];simp;omega
 unfold qO gI;simp only [List.getElem?_replicate];split<;>rfl
theorem Hp.Ok.aH (d:M.Ok) (c:Int) (y:List Bool):(M.aH c y).2.2.Ok:=by
 unfold Hp.aH;split
 ·exact d
 rename_i z;exact d.add (qF z).1 (qF z).2
theorem Hp.Ok.aG (y:M.Ok) (k c n:Int):(M.aG k c n).2.2.Ok:=by
 unfold Hp.aG;split
 ·exact y
 rename_i z;split
 ·rename_i hd;exact y.add (qN z hd).1 (qN z hd).2
 exact y
theorem Hp.Ok.put (y:M.Ok) (e:M.ob h=some o) {s:Nat} (hs:s<o.slots.length) {v:Int} (hf:M.fits (gB o.refs s) v=true) :
  (⟨(M.P.setCell (o.addr s) v).2,eU M.ob h (some (o.put s v))⟩:Hp).Ok:=by
 obtain ⟨h1,h2,h3⟩:=y.aNL e hs;have hc:=y.isC e h1;have hb:=(y.bk h o e _ h1).put hc h2 v;rw [<-Th.addr_eq] at hb;have x2:=y.p.setCell (o.addr s) v;have h6:∀ x,gI (o.slots.set s v) x=if x=s then v else gI o.slots x:=fun x=>mX hs;refine ⟨x2.1,by rw [x2.2];exact y.n1,by rw [x2.2];exact y.n24,fun d o' e'=>?_,fun d o' e'=>?_,fun d o' e'=>?_,fun d o' e' m hm=>?_,fun a1 o1 e1 a2 o2 e2 m hm m' h0 em=>?_,fun d o' e' s' hs'=>?_⟩
 ·rcases aW e' with ⟨rfl,_⟩|⟨_,e2⟩
  ·exact y.hr d o e
  exact y.hr d o' e2
 ·rcases aW e' with ⟨_,rfl⟩|⟨_,e2⟩
  ·have hh:=y.th h o e;exact ⟨by have:=hh.kd;simp only [Th.put,List.length_set];exact this,by simp only [Th.put,List.length_set];exact hh.rl⟩
  exact y.th d o' e2
 ·rcases aW e' with ⟨_,rfl⟩|⟨_,e2⟩
  ·have:=y.bl h o e;simp only [Th.put,List.length_set];exact this
  exact y.bl d o' e2
 ·rcases aW e' with ⟨rfl,rfl⟩|⟨x1,e2⟩
  ·have h0:m<o.blocks.length:=hm;have h9:=y.isC e h0;show Blk _ (gI (aT (o.slots.set s v).length) m) (gI o.blocks m) _;rw [List.length_set]
   by_cases em:m=o.tV s
   ·subst em;refine hb.2.aLx (fun x _=>?_)
    by_cases ex:x=o.aBD s
    ·rw [ex,bP];show (o.put s v).cell d (o.tV s) (o.aBD s)=v;unfold Th.cell Th.put Th.tV Th.aBD;simp only [h6]
     by_cases h4:1<o.blocks.length
     ·simp only [h4,if_true];rw [if_neg (by omega),if_pos (by omega)]
     simp only [h4,if_false,if_true];rw [if_neg (by omega),if_pos (by omega)]
    rw [aV _ _ ex];unfold Th.cell Th.put;unfold Th.aBD at ex;unfold Th.tV;simp only [h6]
    by_cases h4:1<o.blocks.length
    ·simp only [h4,if_true] at ex ⊢;rw [if_neg (by omega),if_neg (by omega),if_neg (by omega)]
    simp only [h4,if_false,if_true] at ex ⊢
    by_cases e0:x=0
    ·rw [if_pos e0,if_pos e0]
    rw [if_neg e0,if_neg e0,if_neg (by omega)]
   refine Blk.aLx (v:=o.cell d m) ?_ (fun x hx=>?_)
   ·have x1:gI o.blocks (o.tV s)≠gI o.blocks m:=fun e3=>em (y.dj d o e d o e _ h1 _ h0 e3).2.symm;have:=(y.bk d o e _ h1).apart hc (y.bk d o e m h0) h9 x1;refine (y.bk d o e m h0).setOther ?_;rw [Th.addr_eq];omega
   unfold Th.cell Th.put;unfold Th.tV at em;simp only [h6];have h8:∀ z:Nat,(z:Nat)<8->True:=fun _ _=>trivial
   by_cases h4:1<o.blocks.length
   ·simp only [h4,if_true] at em ⊢
    by_cases e0:m=0
    ·rw [if_pos e0,if_pos e0]
    rw [if_neg e0,if_neg e0];have x6:x<8:=by
     have:=(uG (n:=o.slots.length) (m:=m) (by omega) (by rw [<-y.bl d o e];exact h0)).2;rw [this] at hx;exact hx
    rw [if_neg (by omega)]
   exfalso;simp only [h4,if_false] at em;have:=y.aCn e;omega
  have h9:=y.isC e2 hm;refine (y.bk d o' e2 m hm).setOther ?_;have x4:gI o.blocks (o.tV s)≠gI o'.blocks m:=fun e3=>x1 (y.dj h o e d o' e2 _ h1 _ hm e3).1.symm;have:=(y.bk h o e _ h1).apart hc (y.bk d o' e2 m hm) h9 x4;rw [Th.addr_eq];omega
 ·rcases aW e1 with ⟨rfl,rfl⟩|⟨_,x3⟩
  ·rcases aW e2 with ⟨rfl,rfl⟩|⟨_,h7⟩
   ·exact y.dj _ o e _ o e m hm m' h0 em
   exact y.dj _ o e _ o2 h7 m hm m' h0 em
  rcases aW e2 with ⟨rfl,rfl⟩|⟨_,h7⟩
  ·exact y.dj _ o1 x3 _ o e m hm m' h0 em
  exact y.dj _ o1 x3 _ o2 h7 m hm m' h0 em
 have h5:∀ k,(M.ob k).isSome=true->(eU M.ob h (some (o.put s v)) k).isSome=true:=fun k hks=>by
  by_cases ek:k=h
  ·rw [ek,aZ];rfl
  rw [bD _ _ ek];exact hks
 rcases aW e' with ⟨rfl,rfl⟩|⟨_,e2⟩
 ·have x5:s'<o.slots.length:=by simpa [Th.put] using hs'
  show Hp.fits _ (gB o.refs s') (gI (o.slots.set s v) s')=true;rw [h6]
  by_cases e3:s'=s
  ·rw [if_pos e3,e3];exact Hp.Ok.lT hf h5
  rw [if_neg e3];exact Hp.Ok.lT (y.sl d o e s' x5) h5
 exact Hp.Ok.lT (y.sl d o' e2 s' hs') h5
theorem Hp.Ok.set (y:M.Ok) (h s v:Int):(M.set h s v).2.Ok:=by
 unfold Hp.set
 cases e:M.ob h with
 | none=>exact y
 | some o=>
  simp only;split
  ·exact y
  rename_i hs;split
  ·rename_i z;exact y.put e (by omega) z
  exact y
end
theorem aBj {P:Pl} (z:P.ok) (l:List Int) (k:Nat):(iL P l k).ok/\(iL P l k).n=P.n:=by
 induction k with
 | zero=>exact ⟨z,rfl⟩
 | succ k y=>exact ⟨(y.1.free _).1,(y.1.free _).2.trans y.2⟩
theorem zW {P:Pl} {c a:Int} {v:Nat->Int} (z:IsC c) (h:Blk P c a v) {l:List Int} {k:Nat} (y:∀ m,m<k->gI l m≠a):Blk (iL P l k) c a v:=by
 induction k with
 | zero=>exact h
 | succ k d=>exact (d (fun m e=>y m (by omega))).free z (y k (by omega))
theorem Th.aJQ {o:Th} {k s:Nat} (hs:s<k) (y:gB o.refs s=true) (z:gI o.slots s≠0):gI o.slots s∈o.fE k:=by
 induction k with
 | zero=>omega
 | succ k d=>
  unfold fE
  by_cases e:s=k
  ·subst e;rw [if_pos ⟨y,z⟩];simp
  exact List.mem_append_left _ (d (by omega))
theorem Th.nU {o:Th} {k:Nat} {x:Int} (h:x∈o.fE k):∃ s,s<k/\gB o.refs s=true/\gI o.slots s=x/\x≠0:=by
 induction k with
 | zero=>simp [fE] at h
 | succ k d=>
  unfold fE at h;rcases List.mem_append.1 h with h|h
  ·obtain ⟨s,y,z⟩:=d h;exact ⟨s,by omega,z⟩
  split at h
  ·rename_i y;simp at h;exact ⟨k,by omega,y.1,h.symm,by rw [h];exact y.2⟩
  simp at h
theorem Th.jY (o:Th) (k:Nat):(o.fE k).length<=k:=by
 induction k with
 | zero=>simp [fE]
 | succ k y=>unfold fE;rw [List.length_append];split<;>simp<;>omega
section
variable {M:Hp} {h:Int} {o:Th}
theorem Hp.mJ {M:Hp} {h:Int}:M.held h=true↔∃ k:Nat,k<192/\M.refers h ((k:Int)+1)=true:=by
 unfold Hp.held;rw [List.any_eq_true];constructor
 ·rintro ⟨k,y,z⟩;exact ⟨k,by simpa using y,z⟩
 rintro ⟨k,y,z⟩;exact ⟨k,by simpa using y,z⟩
theorem Hp.Ok.drop (hk:M.Ok) (ho:M.ob h=some o) (hh:M.held h=false):(M.drop h o).Ok:=by
 have h0:=aBj hk.p o.blocks o.blocks.length;have y:∀ z o',eU M.ob h none z=some o'->z≠h/\M.ob z=some o':=fun z o' e=>by
  by_cases e1:z=h
  ·rw [e1,aZ] at e;cases e
  rw [bD _ _ e1] at e;exact ⟨e1,e⟩
 refine ⟨h0.1,by show 1<=(iL _ _ _).n;rw [h0.2];exact hk.n1,by show (iL _ _ _).n<=24;rw [h0.2];exact hk.n24,fun z o' e=>hk.hr z o' (y z o' e).2,fun z o' e=>hk.th z o' (y z o' e).2,fun z o' e=>hk.bl z o' (y z o' e).2,fun z o' e m hm=>?_,fun d o1 e1 h2 o2 e2=>hk.dj d o1 (y _ _ e1).2 h2 o2 (y _ _ e2).2,fun z o' e s hs=>?_⟩
 ·obtain ⟨e1,e2⟩:=y z o' e;exact zW (hk.isC e2 hm) (hk.bk z o' e2 m hm) (fun m' h3 e3=>e1 (hk.dj h o ho z o' e2 m' h3 m hm e3).1.symm)
 obtain ⟨e1,e2⟩:=y z o' e;have d:=hk.sl z o' e2 s hs;unfold Hp.fits at d ⊢
 cases hr:gB o'.refs s
 ·rw [hr] at d;exact d
 rw [hr] at d;simp only [if_true,Bool.or_eq_true,decide_eq_true_eq] at d ⊢;rcases d with d|d
 ·exact .inl d
 by_cases e0:gI o'.slots s=0
 ·exact .inl e0
 right;show (eU M.ob h none (gI o'.slots s)).isSome=true;rw [bD _ _ ?_]
 ·exact d
 intro e3;have hm:gI o'.slots s∈o'.fJ:=Th.aJQ hs hr e0;rw [e3] at hm;have hb:=hk.hr z o' e2;have:M.held h=true:=Hp.mJ.2 ⟨z.toNat - 1,by omega,by
  unfold Hp.refers;rw [show ((z.toNat - 1:Nat):Int)+1=z by omega,e2];simp [e1,hm]⟩
 rw [hh] at this;cases this
theorem Hp.Ok.release (y:M.Ok) (h:Int):(M.release h).2.Ok:=by
 unfold Hp.release
 cases e:M.ob h with
 | none=>exact y
 | some o=>
  simp only;split
  ·exact y
  rename_i z;exact y.drop e (by simpa using z)
theorem Th.oU {o:Th} {a:Int} (h:o.place a<o.blocks.length):gI o.blocks (o.place a)=a:=by
 have:=(dU (fun k=>gI o.blocks k == a) o.blocks.length).2 h;simpa [Th.place] using this
theorem Th.aBN {o:Th} {a:Int} {m:Nat} (y:m<o.blocks.length) (e:gI o.blocks m=a):o.place a<o.blocks.length:=
 (aDO (f:=fun k=>gI o.blocks k == a) y (by simp [e])).2.1
theorem Hp.wQ {M:Hp} {a h:Int}:M.owns a h=true↔∃ o,M.ob h=some o/\o.place a<o.blocks.length:=by
 unfold Hp.owns
 cases M.ob h with
 | none=>simp
 | some o=>simp
theorem Hp.Ok.aBQ (hk:M.Ok) {a:Int} (y:M.ob h=some o) (z:o.place a<o.blocks.length):M.owner a<192/\(M.owner a:Int)+1=h:=by
 have hr:=hk.hr h o y;have h1:M.owns a (((h.toNat - 1:Nat):Int)+1)=true:=Hp.wQ.2 ⟨o,by rw [show ((h.toNat - 1:Nat):Int)+1=h by omega];exact y,z⟩;have d:=aDO (f:=fun k=>M.owns a ((k:Int)+1)) (k:=h.toNat - 1) (m:=192) (by omega) h1;refine ⟨d.2.1,?_⟩;obtain ⟨o',h3,e⟩:=Hp.wQ.1 d.2.2;exact (hk.dj _ o' h3 h o y _ e _ z (by rw [Th.oU e,Th.oU z])).1
theorem Hp.Ok.eX (z:M.Ok) (he:M.P.move.2.2.1=0) (ho:M.ob h=some o) {k:Nat} (y5:k<o.blocks.length) (y3:gI o.blocks k=M.P.move.1):(Hp.eX M.P.move.2.2.2 M.ob h o k M.P.move.2.1).Ok:=by
 have x3:=z.p.move;obtain ⟨to,y2⟩:∃ t,t=M.P.move.2.1:=⟨_,rfl⟩;obtain ⟨Q,hQ⟩:∃ Q,Q=M.P.move.2.2.2:=⟨_,rfl⟩;have x7:∀ y o',M.ob y=some o'->∀ m,m<o'.blocks.length->(y=h/\m=k/\Blk Q (gI (aT o'.slots.length) m) to (o'.cell y m))\/(¬ (y=h/\m=k)/\Blk Q (gI (aT o'.slots.length) m) (gI o'.blocks m) (o'.cell y m)):=fun y o' e m hm=>by
  rcases (z.bk y o' e m hm).move z.p (z.isC e hm) with ⟨_,h1,h2⟩|⟨h1,h2⟩
  ·have:=z.dj y o' e h o ho m hm k y5 (by rw [<-h1,y3]);left;exact ⟨this.1,this.2,by rw [hQ,y2];exact h2⟩
  right;refine ⟨fun ⟨e1,e2⟩=>?_,by rw [hQ];exact h2⟩;subst e1;subst e2;rw [ho] at e;cases e
  exact h1 ⟨he,y3.symm⟩
 have x1:∀ y o',M.ob y=some o'->∀ m,m<o'.blocks.length->to≠gI o'.blocks m:=fun y o' e m hm=>by
  rw [y2];exact (z.bk y o' e m hm).yT z.p (z.isC e hm) he
 have h4:∀ m,gI (o.blocks.set k to) m=if m=k then to else gI o.blocks m:=fun m=>mX y5;obtain ⟨y8,y9,y7,z0⟩:=z.aCn ho;have y4:=z.isC ho (m:=0) (by omega);obtain ⟨Q',h9⟩:∃ Q',Q'=if k=0 then Q else (Q.setCell (gI o.blocks 0+(k:Int)) to).2:=⟨_,rfl⟩;have x9:Q'.ok/\Q'.n=M.P.n:=by
  rw [h9];split
  ·rw [hQ];exact ⟨x3.1,x3.2⟩
  rw [hQ];exact ⟨(x3.1.setCell _ _).1,(x3.1.setCell _ _).2.trans x3.2⟩
 have y6:k≠0->k<bsz (gI (aT o.slots.length) 0):=fun h0=>by
  have h7:=y7.1 (by omega);rw [lI,sU h7];show k<8;omega
 have x4:k≠0->Blk Q (gI (aT o.slots.length) 0) (gI o.blocks 0) (o.cell h 0):=fun h0=>by
  rcases x7 h o ho 0 (by omega) with ⟨_,h1,_⟩|⟨_,h1⟩
  ·omega
  exact h1
 have h6:∀ y o',M.ob y=some o'->∀ m,m<o'.blocks.length->¬ (y=h/\m=0)->∀ a,Blk Q (gI (aT o'.slots.length) m) a (o'.cell y m)->a≠gI o.blocks 0->Blk Q' (gI (aT o'.slots.length) m) a (o'.cell y m):=fun y o' e m hm hn a hb x2=>by
  rw [h9];split
  ·exact hb
  rename_i h0;have h1:=(x4 h0).apart y4 hb (z.isC e hm) (Ne.symm x2);have h2:=y6 h0;exact hb.setOther (by omega)
 show Hp.Ok ⟨if k=0 then M.P.move.2.2.2 else (M.P.move.2.2.2.setCell (gI o.blocks 0+(k:Int)) M.P.move.2.1).2,eU M.ob h (some (o.moved k M.P.move.2.1))⟩;rw [<-y2,<-hQ,<-h9];refine ⟨x9.1,by show 1<=Q'.n;rw [x9.2];exact z.n1,by show Q'.n<=24;rw [x9.2];exact z.n24,fun y o' e'=>?_,fun y o' e'=>?_,fun y o' e'=>?_,fun y o' e' m hm=>?_,fun a1 o1 e1 a2 o2 e2 m hm m' h3 em=>?_,fun y o' e' s' hs'=>?_⟩
 ·rcases aW e' with ⟨rfl,_⟩|⟨_,e2⟩
  ·exact z.hr y o ho
  exact z.hr y o' e2
 ·rcases aW e' with ⟨_,rfl⟩|⟨_,e2⟩
  ·exact ⟨(z.th h o ho).kd,(z.th h o ho).rl⟩
  exact z.th y o' e2
 ·rcases aW e' with ⟨_,rfl⟩|⟨_,e2⟩
  ·show (o.blocks.set k to).length=_;rw [List.length_set];exact z.bl h o ho
  exact z.bl y o' e2
 ·rcases aW e' with ⟨rfl,rfl⟩|⟨x2,e2⟩
  ·have h3:m<o.blocks.length:=by simpa [Th.moved] using hm
   show Blk Q' (gI (aT o.slots.length) m) (gI (o.blocks.set k to) m) _;have h5:∀ x,(m≠0\/(x≠k\/k=0))->(o.moved k to).cell y m x=o.cell y m x:=fun x hx=>by
    unfold Th.cell Th.moved;simp only [List.length_set,h4]
    by_cases em:m=0
    ·rw [if_pos em,if_pos em]
     by_cases ex:x=0
     ·rw [if_pos ex,if_pos ex]
     rw [if_neg ex,if_neg ex]
     by_cases e1:1<o.blocks.length
     ·rw [if_pos e1,if_pos e1,if_neg (by omega)]
     rw [if_neg e1,if_neg e1]
    rw [if_neg em,if_neg em]
   by_cases em:m=0
   ·subst em
    by_cases h0:k=0
    ·subst h0;rw [h4,if_pos rfl,h9,if_pos rfl];rcases x7 y o ho 0 h3 with ⟨_,_,h1⟩|⟨h1,_⟩
     ·exact h1.aLx (fun x _=>h5 x (.inr (.inr rfl)))
     exact absurd ⟨rfl,rfl⟩ h1
    rw [h4,if_neg (Ne.symm h0),h9,if_neg h0];have h1:=((x4 h0).put y4 (y6 h0) to).2;refine h1.aLx (fun x _=>?_)
    by_cases ex:x=k
    ·rw [ex,bP];unfold Th.cell Th.moved;simp only [List.length_set,h4];simp only [if_true];rw [if_neg h0,if_pos (by omega)]
    rw [aV _ _ ex];exact h5 x (.inr (.inl ex))
   refine Blk.aLx (v:=o.cell y m) ?_ (fun x _=>h5 x (.inl em));rw [h4];rcases x7 y o ho m h3 with ⟨_,h1,h2⟩|⟨h1,h2⟩
   ·rw [if_pos h1];exact h6 y o ho m h3 (fun e3=>em e3.2) to h2 (x1 y o ho 0 (by omega))
   rw [if_neg (fun e3=>h1 ⟨rfl,e3⟩)];exact h6 y o ho m h3 (fun e3=>em e3.2) _ h2 (fun e3=>em (z.dj y o ho y o ho m h3 0 (by omega) e3).2)
  rcases x7 y o' e2 m hm with ⟨h1,_⟩|⟨_,h2⟩
  ·exact absurd h1 x2
  exact h6 y o' e2 m hm (fun e3=>x2 e3.1) _ h2 (fun e3=>x2 (z.dj y o' e2 h o ho m hm 0 (by omega) e3).1)
 ·rcases aW e1 with ⟨rfl,rfl⟩|⟨n1,y0⟩
  ·have y1:m<o.blocks.length:=by simpa [Th.moved] using hm
   have h8:gI (o.blocks.set k to) m=gI o2.blocks m':=em;rcases aW e2 with ⟨rfl,rfl⟩|⟨n2,x6⟩
   ·have x8:m'<o.blocks.length:=by simpa [Th.moved] using h3
    have d:gI (o.blocks.set k to) m=gI (o.blocks.set k to) m':=em;rw [h4,h4] at d;refine ⟨rfl,?_⟩
    by_cases k1:m=k
    ·by_cases k2:m'=k
     ·omega
     rw [if_pos k1,if_neg k2] at d;exact absurd d (x1 _ o ho m' x8)
    by_cases k2:m'=k
    ·rw [if_neg k1,if_pos k2] at d;exact absurd d.symm (x1 _ o ho m y1)
    rw [if_neg k1,if_neg k2] at d;exact (z.dj _ o ho _ o ho m y1 m' x8 d).2
   rw [h4] at h8
   by_cases k1:m=k
   ·rw [if_pos k1] at h8;exact absurd h8 (x1 _ o2 x6 m' h3)
   rw [if_neg k1] at h8;exact z.dj _ o ho _ o2 x6 m y1 m' h3 h8
  rcases aW e2 with ⟨rfl,rfl⟩|⟨n2,x6⟩
  ·have x8:m'<o.blocks.length:=by simpa [Th.moved] using h3
   have d:gI o1.blocks m=gI (o.blocks.set k to) m':=em;rw [h4] at d
   by_cases k2:m'=k
   ·rw [if_pos k2] at d;exact absurd d.symm (x1 _ o1 y0 m hm)
   rw [if_neg k2] at d;exact z.dj _ o1 y0 _ o ho m hm m' x8 d
  exact z.dj _ o1 y0 _ o2 x6 m hm m' h3 em
 have x5:∀ k',(M.ob k').isSome=true->(eU M.ob h (some (o.moved k to)) k').isSome=true:=fun k' hks=>by
  by_cases ek:k'=h
  ·rw [ek,aZ];rfl
  rw [bD _ _ ek];exact hks
 rcases aW e' with ⟨rfl,rfl⟩|⟨_,e2⟩
 ·exact Hp.Ok.lT (z.sl y o ho s' hs') x5
 exact Hp.Ok.lT (z.sl y o' e2 s' hs') x5
theorem Hp.Ok.move (y:M.Ok):M.move.2.2.Ok:=by
 unfold Hp.move;split
 ·rename_i he
  cases eo:M.ob ((M.owner M.P.move.1:Int)+1) with
  | none=>
   show Hp.Ok ⟨M.P.move.2.2.2,M.ob⟩;refine ⟨y.p.move.1,by rw [y.p.move.2];exact y.n1,by rw [y.p.move.2];exact y.n24,y.hr,y.th,y.bl,fun h' o' e m z=>?_,y.dj,y.sl⟩;rcases (y.bk h' o' e m z).move y.p (y.isC e z) with ⟨_,d,_⟩|⟨_,h2⟩
   ·have:=y.aBQ e (Th.aBN z d.symm);rw [this.2,e] at eo;cases eo
   exact h2
  | some o=>
   by_cases hl:M.owner M.P.move.1<192
   ·have hd:decide (M.owner M.P.move.1<192)=true:=by simpa using hl
    rw [hd];have d:=(dU (fun k=>M.owns M.P.move.1 ((k:Int)+1)) 192).2 hl;obtain ⟨o',h2,h3⟩:=Hp.wQ.1 d;have h4:M.ob ((M.owner M.P.move.1:Int)+1)=some o':=h2;rw [eo] at h4;cases h4
    exact y.eX he eo h3 (Th.oU h3)
   have hd:decide (M.owner M.P.move.1<192)=false:=by simpa using hl
   rw [hd];show Hp.Ok ⟨M.P.move.2.2.2,M.ob⟩;refine ⟨y.p.move.1,by rw [y.p.move.2];exact y.n1,by rw [y.p.move.2];exact y.n24,y.hr,y.th,y.bl,fun h' o' e m z=>?_,y.dj,y.sl⟩;rcases (y.bk h' o' e m z).move y.p (y.isC e z) with ⟨_,d,_⟩|⟨_,h2⟩
   ·exact absurd (y.aBQ e (Th.aBN z d.symm)).1 hl
   exact h2
 exact y
theorem Hp.oW {n:Nat} {h:Int} {o:Th} (e:(Hp.new n).ob h=some o):False:=by cases e
theorem Hp.Ok.new {n:Nat} (z:1<=n) (y:n<=24):(Hp.new n).Ok:=
 ⟨Pl.aBv n,z,y,fun _ _ e=>(Hp.oW e).elim,fun _ _ e=>(Hp.oW e).elim,fun _ _ e=>(Hp.oW e).elim,fun _ _ e=>(Hp.oW e).elim,fun _ _ e=>(Hp.oW e).elim,fun _ _ e=>(Hp.oW e).elim⟩
end
def qW (P:Pl) (o:Th):Nat->Pl
 | 0=>P
 | k+1=>((qW P o k).setCell (gI o.blocks 0+((k+1:Nat):Int)) (gI o.blocks (k+1))).2
def aEg (P:Pl) (o:Th):Nat->Pl
 | 0=>P
 | k+1=>((aEg P o k).setCell (o.addr k) (gI o.slots k)).2
def uO (P:Pl) (h:Int) (o:Th):Pl:=(P.setCell (gI o.blocks 0) h).2
def Th.lay (o:Th) (P:Pl) (h:Int):Pl:=aEg (qW (uO P h o) o (o.blocks.length - 1)) o o.slots.length
theorem aFX {P:Pl} (z:P.ok) (h:Int) (o:Th) (j i:Nat):(aEg (qW (uO P h o) o j) o i).ok/\(aEg (qW (uO P h o) o j) o i).n=P.n:=by
 have d:=z.setCell (gI o.blocks 0) h;have e:(qW (uO P h o) o j).ok/\(qW (uO P h o) o j).n=P.n:=by
  induction j with
  | zero=>exact d
  | succ j y=>exact ⟨(y.1.setCell _ _).1,(y.1.setCell _ _).2.trans y.2⟩
 induction i with
 | zero=>exact e
 | succ i y=>exact ⟨(y.1.setCell _ _).1,(y.1.setCell _ _).2.trans y.2⟩
theorem zC {P:Pl} {o:Th} {n:Nat} (h:∀ k,1<=k->k<=n->P.cell (gI o.blocks 0+(k:Int))=(gI o.blocks k,0)):qW P o n=P:=by
 induction n with
 | zero=>rfl
 | succ n z=>
  unfold qW;rw [z (fun k y d=>h k y (by omega))];exact (Pl.fD (h (n+1) (by omega) (by omega))).1
theorem rY {P:Pl} {o:Th} {n:Nat} (h:∀ s,s<n->P.cell (o.addr s)=(gI o.slots s,0)):aEg P o n=P:=by
 induction n with
 | zero=>rfl
 | succ n y=>
  unfold aEg;rw [y (fun s hs=>h s (by omega))];exact (Pl.fD (h n (by omega))).1
theorem aME {P P':Pl} {o:Th} {n k0:Nat} (h1:1<=k0) (h2:k0<=n) (he:P'=(P.setCell (gI o.blocks 0+(k0:Int)) (gI o.blocks k0)).2)
  (d:∀ k,1<=k->k<k0->P.cell (gI o.blocks 0+(k:Int))=(gI o.blocks k,0)) (hb:∀ k,k0<k->k<=n->P'.cell (gI o.blocks 0+(k:Int))=(gI o.blocks k,0)):qW P o n=P':=by
 induction n with
 | zero=>omega
 | succ n ih=>
  unfold qW
  by_cases e:k0=n+1
  ·rw [zC (fun k y z=>d k y (by omega)),he,e]
  rw [ih (by omega) (fun k y z=>hb k y (by omega))];exact (Pl.fD (hb (n+1) (by omega) (by omega))).1
theorem aMC {P P':Pl} {o:Th} {n y:Nat} (h2:y<n) (he:P'=(P.setCell (o.addr y) (gI o.slots y)).2)
  (ha:∀ s,s<y->P.cell (o.addr s)=(gI o.slots s,0)) (hb:∀ s,y<s->s<n->P'.cell (o.addr s)=(gI o.slots s,0)):aEg P o n=P':=by
 induction n with
 | zero=>omega
 | succ n ih=>
  unfold aEg
  by_cases e:y=n
  ·rw [rY (fun s d=>ha s (by omega)),he,e]
  rw [ih (by omega) (fun s z d=>hb s z (by omega))];exact (Pl.fD (hb n (by omega) (by omega))).1
section
variable {M:Hp} {h:Int} {o:Th}
theorem Hp.Ok.aOR (z:M.Ok) (d:M.ob h=some o) {s:Nat} (hs:s<o.slots.length) {v:Int} (hf:M.fits (gB o.refs s) v=true):(o.put s v).lay M.P h=(M.P.setCell (o.addr s) v).2:=by
 have h0:=z.put d hs hf;have h4:(⟨(M.P.setCell (o.addr s) v).2,eU M.ob h (some (o.put s v))⟩:Hp).ob h=some (o.put s v):=aZ _ _ _;have e:∀ x,gI (o.put s v).slots x=if x=s then v else gI o.slots x:=fun x=>mX hs;have y:(o.put s v).slots.length=o.slots.length:=by simp [Th.put]
 unfold Th.lay;have e1:uO M.P h (o.put s v)=M.P:=(Pl.fD (z.aGb d)).1;have e2:qW M.P (o.put s v) ((o.put s v).blocks.length - 1)=M.P:=zC (fun k h1 h2=>z.aBU d h1 (by have:=z.aCn d;show k<o.blocks.length;have h3:(o.put s v).blocks.length=o.blocks.length:=rfl;omega));rw [e1,e2,y];refine aMC hs ?_ (fun s' h1=>?_) (fun s' h1 h2=>?_)
 ·show _=(M.P.setCell (o.addr s) (gI (o.put s v).slots s)).2;rw [e,if_pos rfl]
 ·have:=(z.kS d (s:=s') (by omega)).1;rw [e,if_neg (by omega)];exact this
 exact (h0.kS h4 (s:=s') (by rw [y];exact h2)).1
theorem Hp.Ok.aJX (hk:M.Ok) (he:M.P.move.2.2.1=0) (ho:M.ob h=some o) {k:Nat} (h4:k<o.blocks.length) (h5:gI o.blocks k=M.P.move.1) :
  (o.moved k M.P.move.2.1).lay M.P.move.2.2.2 h=(Hp.eX M.P.move.2.2.2 M.ob h o k M.P.move.2.1).P:=by
 have y:=hk.eX he ho h4 h5
 have z:(Hp.eX M.P.move.2.2.2 M.ob h o k M.P.move.2.1).ob h=some (o.moved k M.P.move.2.1):=aZ _ _ _;have h3:∀ m,gI (o.moved k M.P.move.2.1).blocks m=if m=k then M.P.move.2.1 else gI o.blocks m:=fun m=>mX h4;have d:(o.moved k M.P.move.2.1).blocks.length=o.blocks.length:=by simp [Th.moved]
 have h9:=hk.aCn ho;have h6:=hk.isC ho (m:=0) (by omega);unfold Th.lay
 by_cases h0:k=0
 ·subst h0;have eP:(Hp.eX M.P.move.2.2.2 M.ob h o 0 M.P.move.2.1).P=M.P.move.2.2.2:=rfl;rw [<-eP];have e1:uO (Hp.eX M.P.move.2.2.2 M.ob h o 0 M.P.move.2.1).P h (o.moved 0 M.P.move.2.1)=(Hp.eX M.P.move.2.2.2 M.ob h o 0 M.P.move.2.1).P:=(Pl.fD (y.aGb z)).1;rw [e1,zC (fun j h1 h2=>y.aBU z h1 (by rw [d] at h2 ⊢;omega)),rY (fun s hs=>(y.kS z hs).1)];rfl
 have eP:(Hp.eX M.P.move.2.2.2 M.ob h o k M.P.move.2.1).P=(M.P.move.2.2.2.setCell (gI o.blocks 0+(k:Int)) M.P.move.2.1).2:=if_neg h0;have e:gI (o.moved k M.P.move.2.1).blocks 0=gI o.blocks 0:=by rw [h3,if_neg (Ne.symm h0)]
 have hB:Blk M.P.move.2.2.2 (gI (aT o.slots.length) 0) (gI o.blocks 0) (o.cell h 0):=by
  rcases (hk.bk h o ho 0 (by omega)).move hk.p h6 with ⟨_,h1,_⟩|⟨_,h2⟩
  ·exact absurd (hk.dj h o ho h o ho k h4 0 (by omega) (by rw [h5,h1])).2 h0
  exact h2
 have h7:=h9.2.2.1.1 (by omega);have h8:bsz (gI (aT o.slots.length) 0)=8:=by rw [lI,sU h7];rfl
 have hx:∀ x:Nat,x<8->M.P.move.2.2.2.cell (gI o.blocks 0+(x:Int))=(o.cell h 0 x,0):=fun x hx=>(hB.tells h6 (by omega)).2;have e1:uO M.P.move.2.2.2 h (o.moved k M.P.move.2.1)=M.P.move.2.2.2:=by
  refine (Pl.fD ?_).1;rw [e];have:=hx 0 (by omega);simpa [Th.cell] using this
 rw [e1,d];have e2:qW M.P.move.2.2.2 (o.moved k M.P.move.2.1) (o.blocks.length - 1)=(Hp.eX M.P.move.2.2.2 M.ob h o k M.P.move.2.1).P:=by
  refine aME (k0:=k) (by omega) (by omega) ?_ (fun j h1 h2=>?_) (fun j h1 h2=>y.aBU z (by omega) (by rw [d];omega))
  ·rw [eP,e,h3,if_pos rfl]
  rw [e,h3,if_neg (by omega),hx j (by omega)];unfold Th.cell;rw [if_pos rfl,if_neg (by omega),if_pos (by omega)]
 rw [e2];exact rY (fun s hs=>(y.kS z hs).1)
theorem aMD {P:Pl} {o:Th} (n:Nat):qW P o n=vX P (gI o.blocks 0+1) (o.blocks.drop 1) n:=by
 induction n with
 | zero=>rfl
 | succ n y=>
  unfold qW vX;rw [y,show gI o.blocks 0+((n+1:Nat):Int)=gI o.blocks 0+1+(n:Int) by omega];congr 2;unfold gI;rw [List.getElem?_drop,Nat.add_comm]
theorem aJY {P:Pl} {o:Th} (h:Int):qW (uO P h o) o (o.blocks.length - 1)=fK P h o.blocks:=by
 unfold fK uO;exact aMD _
theorem Hp.Ok.aOS {hN:Int} {Q:Pl} (y:(⟨fK Q hN o.blocks,eU M.ob hN (some o)⟩:Hp).Ok):o.lay Q hN=fK Q hN o.blocks:=by
 unfold Th.lay;rw [aJY];exact rY (fun s hs=>(y.kS (aZ _ _ _) hs).1)
end
end Go.Proofs.YthflghdaejbdkaaGreat
namespace Go.Proofs.YthflghdaejbdkaaGreat
open _root_.Go.Proofs.Tryz (prog)
open Go.RowKit
set_option maxHeartbeats 400000
set_option maxRecDepth 100000
set_option linter.unusedVariables false
def Pg.at (p:Pg) (r:Nat):Value:=if r=0 then .int .i64 p.cls else if r<9 then .bool (p.used (r - 1)) else .int .i64 (p.cell (r - 9))
def Pg.row (p:Pg):List Value:=(List.range 25).map p.at
def gQ (w:World) (b o:Nat) (p:Pg):Prop:=∀ r,r<25->w.cell? ⟨b,o+r,none⟩=some (p.at r)
theorem gQ.cls {w:World} {b o:Nat} {p:Pg} (h:gQ w b o p):w.cell? ⟨b,o,none⟩=some (.int .i64 p.cls):=h 0 (by decide)
theorem gQ.used {w:World} {b o:Nat} {p:Pg} (h:gQ w b o p) {k:Nat} (y:k<8):w.cell? ⟨b,o+1+k,none⟩=some (.bool (p.used k)):=by
 have:=h (1+k) (by omega);rw [<-Nat.add_assoc] at this;rw [this,Pg.at,if_neg (by omega),if_pos (by omega),Nat.add_sub_cancel_left]
theorem gQ.cell {w:World} {b o:Nat} {p:Pg} (h:gQ w b o p) {k:Nat} (y:k<16):w.cell? ⟨b,o+9+k,none⟩=some (.int .i64 (p.cell k)):=by
 have:=h (9+k) (by omega);rw [<-Nat.add_assoc] at this;rw [this,Pg.at,if_neg (by omega),if_neg (by omega),Nat.add_sub_cancel_left]
theorem gQ.only {w w':World} {b o:Nat} {p:Pg} {F:List Nat} (h:gQ w b o p) (y:Only F w w') (hb:b∉F):gQ w' b o p:=fun r z=>y.cell (h r z) hb
theorem gQ.set {w:World} {b o:Nat} {p:Pg} (h:gQ w b o p) (r:Nat) (v:Value) (q:Pg) (hr:r<25) (d:q.at r=v) (z:∀ s,s<25->s≠r->q.at s=p.at s) :
  gQ (w.setCell ⟨b,o+r,none⟩ v) b o q:=by
 intro s hs
 by_cases e:s=r
 ·subst e;rw [d];exact World.cell?_setCell_same _ _ _ (h s hs)
 rw [World.cell?_setCell_other _ _ _ _ (fun y=>by injection y with _ h3 _;omega),z s hs e];exact h s hs
theorem gQ.other {w:World} {b o:Nat} {p:Pg} (h:gQ w b o p) {a:Addr} (v:Value) (y:a.block=b->a.spot=none->a.off<o\/o+25<=a.off):gQ (w.setCell a v) b o p:=by
 intro s hs;rw [World.cell?_setCell_other _ _ _ _ (by
  intro e;have:=y (by rw [e]) (by rw [e]);rw [e] at this;simp at this;omega)]
 exact h s hs
theorem kU {α:Type} {f:Nat->α} {n j:Nat} {v:α} (h:((List.range n).map f)[j]?=some v):j<n/\v=f j:=by
 have y:j<n:=by have:=(List.getElem?_eq_some_iff.1 h).1;simpa using this
 rw [List.getElem?_map,List.getElem?_range y] at h;simp at h;exact ⟨y,h.symm⟩
theorem Pg.aQc {p:Pg} {j:Nat} {v:Value} (h:p.row[j]?=some v):j<25/\v=p.at j:=kU h
theorem gQ.row {w:World} {b o:Nat} {p:Pg} (h:gQ w b o p):∀ j v,p.row[j]?=some v->w.cell? ⟨b,o+j,none⟩=some v:=by
 intro j v z;obtain ⟨y,rfl⟩:=Pg.aQc z;exact h j y
def aBy (p:Pg):List Value:=(List.range 8).map fun k=>.bool (p.used k)
theorem aOf {p:Pg} {j:Nat} {v:Value} (h:(aBy p)[j]?=some v):j<8/\v=.bool (p.used j):=kU h
theorem aAu (w:World) (p:Pg) (k:Nat) (y:k<8):(Instr.index 229 (.agg (aBy p).toArray) (.int .i64 k)).run prog w=.ok (.bool (p.used k)) w:=
 aBG w 229 4 8 _ k _ Tryz.underlying229 .bool Tryz.underlying4 rfl (by kernel_rfl) y (by simp [aBy,y])
theorem pJ (w:World) (b o:Nat) (p:Pg) (h:gQ w b o p):Calls prog 239 #[.pointer (some ⟨b,o,none⟩)] w (aO w (.int .i64 p.count)):=by
 refine aF fun R hR=>?_;have H:=aA h;clear h;go_in;go_wp2_with (refine fB rfl 229 _ rfl b (o+1) rfl (aBy p) _ Tryz.underlying229 rfl (by kernel_rfl) (fun j v hv=>?c1) ?_)
 case c1=>
  obtain ⟨e,rfl⟩:=aOf hv;exact H.o.used e
 go_loop [3,10] (fun n i=>∃ k:Nat,k<=8/\i=.int .i64 k/\n=.int .i64 (cnt p.used k)) (fun _ i=>8 - (intOf i).toNat)
 case atStart=>exact ⟨0,by omega,rfl,rfl⟩
 case round=>
  obtain ⟨k,hk,rfl,rfl⟩:=hrel
  by_cases z:k<8
  ·have y:=fun wx=>aAu wx p k z;have h0:=qY p.used k;have hs:Hid (cnt p.used (k+1)=cnt p.used k+if p.used k then 1 else 0):=rfl
   cases d:p.used k<;>(rw [d] at y;rw [d] at hs)<;>(
    go_wp2_with fail;go_round
    case rel=>exact ⟨k+1,by omega,by go_num,by rw [hs.o];go_num⟩
    case measure=>simp [intOf];omega)
  obtain rfl:k=8:=by omega
  go_wp2;exact hR.o _ _ ⟨rfl,rfl⟩
theorem tX (w:World) (c:Int) (h:IsC c):Calls prog 208 #[.int .i64 c] w (aO w (.int .i64 (bsz c))):=by
 refine aF fun R y=>?_;rcases h with rfl|rfl|rfl<;>
 (go_in
  go_wp2;exact y.o _ _ ⟨rfl,rfl⟩)
theorem aFL (w:World) (c:Int) (h:IsC c):Calls prog 241 #[.int .i64 c] w (aO w (.int .i64 (bpt c))):=by
 refine aF fun R z=>?_;have hs:=h.facts;go_in;go_wp2_with fail;refine (tX _ _ h).mono ?_;rintro e _ ⟨rfl,rfl⟩;rcases hs with ⟨h1,h2⟩|⟨h1,h2⟩|⟨h1,h2⟩<;>
 (rw [h1]
  have y:=aA h2;clear h1 h2;go_wp2;exact z.o _ _ ⟨by rw [y.o];rfl,rfl⟩)
theorem yM (w:World) (b o:Nat) (p:Pg) (h:gQ w b o p) (c:Int) (hc:IsC c):Calls prog 238 #[.pointer (some ⟨b,o,none⟩),.int .i64 c] w (aO w (.bool (p.partly c))):=by
 refine aF fun R y=>?_;have H:=aA h;have h0:=h.cls;have d:Hid (p.partly c=(p.cls == c && decide (p.count<bpt c))):=rfl;clear h
 cases z:(p.cls == c)
 ·go_in;go_wp2;exact y.o _ _ ⟨by rw [d.o,z];rfl,rfl⟩
 go_in;go_wp2_with fail;refine (pJ _ _ _ _ H.o).mono ?_;rintro e _ ⟨rfl,rfl⟩;go_wp2_with fail;refine (aFL _ _ hc).mono ?_;rintro e _ ⟨rfl,rfl⟩;go_wp2_with fail
 all_goals (refine y.o _ _ ⟨?_,rfl⟩;rw [d.o,z];simp)
theorem aHx (w:World) (b o n cap:Nat) (u:Nat->Bool) (hn:n<=64) (hc:∀ k,k<n->w.cell? ⟨b,o+k,none⟩=some (.bool (u k))) (x:Bool) :
  Calls prog 240 #[.slice (some ⟨b,o,none⟩) n cap,.bool x] w (aO w (.int .i64 (idx (fun k=>u k == x) n))):=by
 refine aF fun R hR=>?_;have H:=aA hc;clear hc;go_in;go_wp2;go_loop [8] (fun i=>∃ k:Nat,k<=n/\i=.int .i64 k/\Hid (∀ j,j<k->(u j == x)=false)) (fun i=>n - (intOf i).toNat)
 case atStart=>exact ⟨0,by omega,rfl,fun j hj=>by omega⟩
 case round=>
  obtain ⟨k,hk,rfl,d⟩:=hrel
  by_cases y:k<n
  ·have h1:=H.o k y
   cases z:(u k == x)
   ·have h0:(x == u k)=false:=by rw [<-z];cases x<;>cases u k<;>rfl
    go_wp2_with fail;go_round
    case rel=>exact ⟨k+1,by omega,by go_num,fun j hj=>by
     by_cases e:j=k
     ·rw [e];exact z
     exact d.o j (by omega)⟩
    case measure=>simp [intOf];omega
   have h0:(x == u k)=true:=by rw [<-z];cases x<;>cases u k<;>rfl
   go_wp2;refine hR.o _ _ ⟨?_,rfl⟩;have e1:=lD (f:=fun k=>u k == x) y z d.o;rw [kY (by rw [e1];exact y),e1]
  obtain rfl:k=n:=by omega
  go_wp2;refine hR.o _ _ ⟨?_,rfl⟩;rw [sJ (by rw [fP (f:=fun k=>u k == x) d.o];omega)]
theorem gQ.drewN {w:World} {b o:Nat} {p:Pg} (h:gQ w b o p) (n:Nat):gQ (w.drewN n) b o p:=h
theorem aGl (w:World) (b o:Nat) (p:Pg) (h:gQ w b o p) (z:IsC p.cls) (x:Bool) :
  Calls prog 209 #[.pointer (some ⟨b,o,none⟩),.bool x] w fun e w'=>
   e=.returned (.int .i64 (idx (fun k=>p.used k == x) (bpt p.cls)))/\∃ n,w'=w.drewN n:=by
 refine aF fun R d=>?_;have H:=aA h;have h0:=h.cls;have y:=z.sz;have h2:bpt p.cls<=8:=by omega
 have h3:(bpt p.cls:Int)<=8:=by omega
 have h1:(0:Int)<=bpt p.cls:=by omega
 clear h y;go_in;go_wp2;go_quiet (first|(go_at_call 241;exact aU (aFL _ _ z))|(go_at_call 240;exact aU (aHx _ b (o+1) (bpt p.cls) _ p.used (by omega) (fun k hk=>(H.o.drewN _).used (by omega)) x)));go_wp2;exact d.o _ _ ⟨rfl,_,rfl⟩
theorem zX (w:World) (b o:Nat) (p:Pg) (h:gQ w b o p) (z:IsC p.cls) (d:p.gap p.cls<bpt p.cls) :
  Calls prog 209 #[.pointer (some ⟨b,o,none⟩),.bool false] w fun e w'=>e=.returned (.int .i64 (p.gap p.cls))/\∃ n,w'=w.drewN n:=by
 refine (aGl w b o p h z false).mono ?_;rintro e w' ⟨rfl,hn⟩;refine ⟨?_,hn⟩;have y:fst (fun k=>p.used k == false) (bpt p.cls)=p.gap p.cls:=sS fun j _=>by cases p.used j<;>rfl
 rw [kY (by rw [y];exact d),y]
theorem aKM (w:World) (b o:Nat) (p:Pg) (h:gQ w b o p) (z:IsC p.cls) (d:p.top p.cls<bpt p.cls) :
  Calls prog 209 #[.pointer (some ⟨b,o,none⟩),.bool true] w fun e w'=>e=.returned (.int .i64 (p.top p.cls))/\∃ n,w'=w.drewN n:=by
 refine (aGl w b o p h z true).mono ?_;rintro e w' ⟨rfl,hn⟩;refine ⟨?_,hn⟩;have y:fst (fun k=>p.used k == true) (bpt p.cls)=p.top p.cls:=sS fun j _=>by cases p.used j<;>rfl
 rw [kY (by rw [y];exact d),y]
theorem Pg.aPu (p:Pg) (k:Nat) (y:k<8):p.at (1+k)=.bool (p.used k):=by rw [Pg.at,if_neg (by omega),if_pos (by omega),Nat.add_sub_cancel_left]
theorem Pg.aPv (p:Pg) (k:Nat):p.at (9+k)=.int .i64 (p.cell k):=by rw [Pg.at,if_neg (by omega),if_neg (by omega),Nat.add_sub_cancel_left]
theorem Pg.at_eq {p q:Pg} {s:Nat} (d:s=0->p.cls=q.cls) (e:1<=s->s<9->p.used (s - 1)=q.used (s - 1)) (h2:9<=s->p.cell (s - 9)=q.cell (s - 9)):p.at s=q.at s:=by
 unfold Pg.at
 by_cases y:s=0
 ·rw [if_pos y,if_pos y,d y]
 rw [if_neg y,if_neg y]
 by_cases z:s<9
 ·rw [if_pos z,if_pos z,e (by omega) z]
 rw [if_neg z,if_neg z,h2 (by omega)]
theorem gQ.aBF {w:World} {b o:Nat} {p:Pg} (h:gQ w b o p) {k:Nat} (y:k<8) (v:Bool):gQ (w.setCell ⟨b,o+1+k,none⟩ (.bool v)) b o { p with used:=up p.used k v }:=by
 rw [Nat.add_assoc];refine h.set (1+k) _ _ (by omega) (by rw [Pg.aPu _ _ y];show Value.bool (up p.used k v k)=_;rw [bP]) fun s hs z=>Pg.at_eq (fun _=>rfl) (fun h1 h2=>aV _ _ (by omega)) (fun _=>rfl)
theorem gQ.aJm {w:World} {b o:Nat} {p:Pg} (h:gQ w b o p) (v:Int):gQ (w.setCell ⟨b,o,none⟩ (.int .i64 v)) b o { p with cls:=v }:=
 h.set 0 _ _ (by omega) rfl fun s hs y=>Pg.at_eq (fun e=>absurd e y) (fun _ _=>rfl) (fun _=>rfl)
theorem gQ.setCell {w:World} {b o:Nat} {p:Pg} (h:gQ w b o p) {k:Nat} (z:k<16) (v:Int):gQ (w.setCell ⟨b,o+9+k,none⟩ (.int .i64 v)) b o { p with cell:=up p.cell k v }:=by
 rw [Nat.add_assoc];refine h.set (9+k) _ _ (by omega) (by rw [Pg.aPv];show Value.int .i64 (up p.cell k v k)=_;rw [bP]) fun s hs y=>Pg.at_eq (fun _=>rfl) (fun _ _=>rfl) (fun _=>aV _ _ (by omega))
structure cZ (b o:Nat) (w w':World):Prop where
 only:Only [b] w w'
 row:∀ T cs,Row w b T cs->∃ cs',Row w' b T cs'
 cell:∀ x,x<o\/o+25<=x->w'.cell? ⟨b,x,none⟩=w.cell? ⟨b,x,none⟩
theorem cZ.refl (b o:Nat) (w:World):cZ b o w w:=⟨Only.refl _ _,fun _ cs h=>⟨cs,h⟩,fun _ _=>rfl⟩
theorem cZ.set {b o:Nat} {w w':World} (h:cZ b o w w') (r:Nat) (d:r<25) (v:Value):cZ b o w (w'.setCell ⟨b,o+r,none⟩ v):=
 ⟨h.only.set (by simp) _,fun T cs z=>by obtain ⟨cs',h1⟩:=h.row T cs z;exact ⟨_,h1.set _ _⟩,fun x hx=>by
  rw [World.cell?_setCell_other _ _ _ _ (fun y=>by injection y with _ h3 _;omega)];exact h.cell x hx⟩
theorem cZ.aPH {b o:Nat} {w w':World} (h:cZ b o w w') {k:Nat} (y:k<8) (v:Value):cZ b o w (w'.setCell ⟨b,o+1+k,none⟩ v):=by rw [Nat.add_assoc];exact h.set _ (by omega) v
theorem cZ.drewN {b o:Nat} {w w':World} (h:cZ b o w w') (n:Nat):cZ b o w (w'.drewN n):=⟨h.only.drewN n,h.row,h.cell⟩
theorem aAM (w:World) (b o:Nat) (p:Pg) (h:gQ w b o p) (d:∀ i,w.frozen? ⟨b,i,none⟩=false) (k:Nat) (hk:k<8) :
  Calls prog 210 #[.pointer (some ⟨b,o,none⟩),.int .i64 k] w fun e w'=>e=.returned (.tuple #[])/\gQ w' b o (p.release k)/\cZ b o w w':=by
 refine aF fun R hR=>?_;have h2:=d (o+1+k);have h3:=d o;have h1:=h.used hk;have z:=aA (h.aBF hk false);have O1:=aA ((cZ.refl b o w).aPH hk (.bool false));have hrel:Hid (p.release k=if cnt (up p.used k false) 8=0 then { p with used:=up p.used k false,cls:=-1 } else { p with used:=up p.used k false }):=by
  show _=_;unfold Pg.release;split<;>rfl
 clear h d;go_in;go_wp2_with fail;refine (pJ _ _ _ _ z.o).mono ?_;rintro e w1 ⟨rfl,rfl⟩;have h0:=z.o.cls
 cases hz:(((Pg.count { p with used:=up p.used k false }:Nat):Int) == 0)
 ·have y:¬ cnt (up p.used k false) 8=0:=by simpa [Pg.count] using hz
  go_wp2_with fail;go_end0;refine hR.o _ _ ⟨rfl,?_,O1.o⟩;rw [hrel.o,if_neg y];exact z.o
 have y:cnt (up p.used k false) 8=0:=by simpa [Pg.count] using hz
 have HZ:=aA y;clear y;go_wp2_with fail;go_end0;refine hR.o _ _ ⟨rfl,?_,O1.o.set 0 (by omega) _⟩;rw [hrel.o,if_pos HZ.o];exact z.o.aJm _
structure dQ (w:World) (p b:Nat) (P:Pl):Prop where
 hp:∃ T cap,Row w p T [.slice (some ⟨b,0,none⟩) P.n cap]
 hb:∃ T cs,Row w b T cs
 pg:∀ i,i<P.n->gQ w b (i*25) (P.pg i)
 ne:p≠b
 n1:1<=P.n
 n24:P.n<=24
 ok:P.ok
theorem dQ.only {w w':World} {p b:Nat} {P:Pl} {F:List Nat} (h:dQ w p b P) (k:Only F w w') (d:p∉F) (z:b∉F):dQ w' p b P:=
 ⟨h.hp.imp fun _ x=>x.imp fun _ y=>k.row y d,h.hb.imp fun _ x=>x.imp fun _ y=>k.row y z,fun i hi=>(h.pg i hi).only k z,h.ne,h.n1,h.n24,h.ok⟩
theorem dQ.drewN {w:World} {p b:Nat} {P:Pl} (h:dQ w p b P) (n:Nat):dQ (w.drewN n) p b P:=h.only ((Only.refl [] w).drewN n) (by simp) (by simp)
theorem dQ.facts {w:World} {p b:Nat} {P:Pl} (h:dQ w p b P):∃ cap,w.cell? ⟨p,0,none⟩=some (.slice (some ⟨b,0,none⟩) P.n cap)/\w.frozen? ⟨p,0,none⟩=false/\(∀ i,w.frozen? ⟨b,i,none⟩=false)/\p<w.heap.size/\b<w.heap.size:=by
 obtain ⟨⟨T,cap,y⟩,⟨z,cs,hb⟩,_⟩:=h;exact ⟨cap,y.cell 0 rfl,y.free 0,hb.free,y.lt,hb.lt⟩
theorem dQ.turn {w w':World} {p b:Nat} {P:Pl} (h:dQ w p b P) {i:Nat} (hi:i<P.n) {x:Pg} (hx:gQ w' b (i*25) x) (k:cZ b (i*25) w w') (ok:(P.set i x).ok):dQ w' p b (P.set i x):=by
 refine ⟨h.hp.imp fun _ y=>y.imp fun _ z=>k.only.row z (by simpa using h.ne),h.hb.imp fun T y=>by obtain ⟨cs,hc⟩:=y;exact k.row T cs hc,fun j d=>?_,h.ne,h.n1,h.n24,ok⟩
 by_cases e:j=i
 ·subst e;rw [Pl.aP];exact hx
 rw [Pl.aQ _ _ e];intro r hr;rw [k.cell _ (by omega)];exact h.pg j d r hr
theorem jC (w:World) (p b:Nat) (P:Pl) (h:dQ w p b P):Calls prog 205 #[.pointer (some ⟨p,0,none⟩)] w (aO w (.bool false)):=by
 refine aF fun R y=>?_;obtain ⟨cap,d,hf,_⟩:=h.facts;have e:=h.n1;have z:=h.n24;have hn:((P.n:Int) == 0)=false:=by simp;omega
 clear h;go_in;go_wp2;exact y.o _ _ ⟨rfl,rfl⟩
def aMF (c:Int):Bool:=decide (0<=c) && decide (c<3)
theorem wW {c:Int}:aMF c=true↔IsC c:=by unfold aMF IsC;simp;omega
theorem tC (w:World) (p b:Nat) (P:Pl) (h:dQ w p b P) (c:Int):Calls prog 246 #[.pointer (some ⟨p,0,none⟩),.int .i64 c] w (aO w (.bool (aMF c))):=by
 refine aF fun R d=>?_;have hb:Hid (aMF c=(decide (0<=c) && decide (c<3))):=rfl
 by_cases y:0<=c
 ·go_in;go_wp2_with fail;refine (jC _ _ _ _ h).mono ?_;rintro e _ ⟨rfl,rfl⟩;go_wp2;exact d.o _ _ ⟨by rw [hb.o];simp [y],rfl⟩
 have z:decide (0<=c)=false:=by simpa using y
 have H0:=aA y;clear y;go_in;go_wp2_with fail;refine (jC _ _ _ _ h).mono ?_;rintro e _ ⟨rfl,rfl⟩;go_wp2;exact d.o _ _ ⟨by rw [hb.o,z];rfl,rfl⟩
theorem qP (w:World) (p b:Nat) (P:Pl) (h:dQ w p b P) (a:Int):Calls prog 257 #[.pointer (some ⟨p,0,none⟩),.int .i64 a] w (aO w (.bool (P.addr a))):=by
 refine aF fun R d=>?_;obtain ⟨cap,hc,hf,_⟩:=h.facts;have h1:=h.n24;have hb:Hid (P.addr a=(decide (0<=a) && decide (a<16*P.n))):=rfl
 by_cases y:0<=a
 ·go_in;go_wp2_with fail;refine (jC _ _ _ _ h).mono ?_;rintro e _ ⟨rfl,rfl⟩;go_wp2;exact d.o _ _ ⟨by rw [hb.o];simp [y],rfl⟩
 have z:decide (0<=a)=false:=by simpa using y
 have H0:=aA y;clear y;go_in;go_wp2_with fail;refine (jC _ _ _ _ h).mono ?_;rintro e _ ⟨rfl,rfl⟩;go_wp2;exact d.o _ _ ⟨by rw [hb.o,z];rfl,rfl⟩
theorem aLi (w:World) (p:Pg) (d:Nat) (c:Int) (hc:IsC c) (y:w.cell? ⟨d,0,none⟩=some (.int .i64 c)) :
  Calls prog 248 #[.agg p.row.toArray,.pointer (some ⟨d,0,none⟩)] w fun e w'=>e=.returned (.bool (p.partly c))/\Only [] w w':=by
 refine aF fun R hR=>?_;have h0:=World.block_lt_of_cell? w _ y;have z:gQ (w.alloc (.cells p.row.toArray 232)) w.heap.size 0 p:=by
  intro r hr;have:=(Row.new w 232 p.row).cell r (v:=p.at r) (by simp [Pg.row,hr]);simpa using this
 have HP:=aA z;clear z;go_in;go_wp2_with fail;refine (yM _ _ _ _ HP.o c hc).mono ?_;rintro e _ ⟨rfl,rfl⟩;go_wp2;exact hR.o _ _ ⟨rfl,(Only.refl _ _).alloc _⟩
theorem aLh (w:World) (p:Pg) :
  Calls prog 249 #[.agg p.row.toArray] w fun e w'=>e=.returned (.bool (decide (p.cls<0)))/\Only [] w w':=by
 refine aF fun R y=>?_;have z:(w.alloc (.cells p.row.toArray 232)).cell? ⟨w.heap.size,0,none⟩=some (.int .i64 p.cls):=(Row.new w 232 p.row).cell 0 (by rfl);go_in;go_wp2;exact y.o _ _ ⟨rfl,(Only.refl _ _).alloc _⟩
theorem uS (w:World) (b n cap:Nat) (f:Nat->Pg) (hn:n<=24) (hp:∀ i,i<n->gQ w b (i*25) (f i)) (cb:Nat) (c:Int) (hc:IsC c) (z:w.cell? ⟨cb,0,none⟩=some (.int .i64 c)) :
  Calls prog 247 #[.slice (some ⟨b,0,none⟩) n cap,.func (.func 248) #[] #[.pointer (some ⟨cb,0,none⟩)]] w fun e w'=>e=.returned (.int .i64 (idx (fun i=>(f i).partly c) n))/\Only [] w w':=by
 refine aF fun R hR=>?_;have H:=aA hp;clear hp;go_in;go_wp2;go_loopw [8] (fun i wr=>∃ k:Nat,k<=n/\i=.int .i64 k/\Hid (∀ j,j<k->((f j).partly c)=false)/\Only [] w wr) (fun i _=>n - (intOf i).toNat)
 case atStart=>exact ⟨0,by omega,rfl,fun j hj=>by omega,Only.refl _ _⟩
 case round=>
  obtain ⟨k,hk,rfl,hf,d⟩:=hrel
  by_cases y:k<n
  ·have h1:=(H.o k y).only d (by simp);have HP:=aA h1;clear h1;go_wp2_with (refine fB rfl 232 _ rfl b (k*25) rfl (f k).row _ Tryz.underlying232 rfl (by kernel_rfl) HP.o.row ?_);refine (aLi _ _ _ c hc (d.cell z (by simp))).mono ?_;rintro e w2 ⟨rfl,o2⟩;have h0:=d.trans o2 (by simp);clear o2 d HP
   cases hu:((f k).partly c)
   ·go_wp2;refine ⟨⟨k+1,by omega,by go_num,fun j hj=>?_,h0⟩,by simp [intOf];omega⟩
    by_cases e:j=k
    ·rw [e];exact hu
    exact hf.o j (by omega)
   go_wp2;refine hR.o _ _ ⟨?_,h0⟩;have e1:=lD (f:=fun i=>(f i).partly c) y hu hf.o;rw [kY (by rw [e1];exact y),e1];rfl
  obtain rfl:k=n:=by omega
  go_wp2;refine hR.o _ _ ⟨?_,d⟩;rw [sJ (by rw [fP (f:=fun i=>(f i).partly c) hf.o];omega)];rfl
theorem aAZ (w:World) (b n cap:Nat) (f:Nat->Pg) (hn:n<=24) (hp:∀ i,i<n->gQ w b (i*25) (f i)) :
  Calls prog 247 #[.slice (some ⟨b,0,none⟩) n cap,.func (.func 249) #[] #[]] w fun e w'=>e=.returned (.int .i64 (idx (fun i=>decide ((f i).cls<0)) n))/\Only [] w w':=by
 refine aF fun R hR=>?_;have H:=aA hp;clear hp;go_in;go_wp2;go_loopw [8] (fun i wr=>∃ k:Nat,k<=n/\i=.int .i64 k/\Hid (∀ j,j<k->(decide ((f j).cls<0))=false)/\Only [] w wr) (fun i _=>n - (intOf i).toNat)
 case atStart=>exact ⟨0,by omega,rfl,fun j hj=>by omega,Only.refl _ _⟩
 case round=>
  obtain ⟨k,hk,rfl,hf,ho⟩:=hrel
  by_cases y:k<n
  ·have d:=(H.o k y).only ho (by simp);have HP:=aA d;clear d;go_wp2_with (refine fB rfl 232 _ rfl b (k*25) rfl (f k).row _ Tryz.underlying232 rfl (by kernel_rfl) HP.o.row ?_);refine (aLh _ _).mono ?_;rintro e w2 ⟨rfl,o2⟩;have z:=ho.trans o2 (by simp);clear o2 ho HP
   cases hu:(decide ((f k).cls<0))
   ·go_wp2;refine ⟨⟨k+1,by omega,by go_num,fun j hj=>?_,z⟩,by simp [intOf];omega⟩
    by_cases e:j=k
    ·rw [e];exact hu
    exact hf.o j (by omega)
   go_wp2;refine hR.o _ _ ⟨?_,z⟩;have e1:=lD (f:=fun i=>decide ((f i).cls<0)) y hu hf.o;rw [kY (by rw [e1];exact y),e1];rfl
  obtain rfl:k=n:=by omega
  go_wp2;refine hR.o _ _ ⟨?_,ho⟩;rw [sJ (by rw [fP (f:=fun i=>decide ((f i).cls<0)) hf.o];omega)];rfl
theorem gQ.setCells {w:World} {b o:Nat} {p:Pg} (h:gQ w b o p) (y n:Nat) (hn:y+n<=16) (f:Nat->Int) :
  gQ (w.setCells b (o+9+y) ((List.range n).map fun j=>Value.int .i64 (f j))) b o { p with cell:=fun j=>if y<=j/\j<y+n then f (j - y) else p.cell j }:=by
 intro s hs;have z:((List.range n).map fun j=>Value.int .i64 (f j)).length=n:=by simp
 by_cases d:9+y<=s/\s<9+y+n
 ·obtain ⟨e,h2⟩:=d;have:=World.cell?_setCells_in b ((List.range n).map fun j=>Value.int .i64 (f j)) (o+9+y) w (fun j hj=>by
   rw [z] at hj;have:=h (9+y+j) (by omega);rw [show o+9+y+j=o+(9+y+j) by omega,this];rfl) (s - 9 - y) (by rw [z];omega)
  rw [show o+9+y+(s - 9 - y)=o+s by omega] at this;rw [this];simp only [List.getElem_map,List.getElem_range];unfold Pg.at
  rw [if_neg (by omega),if_neg (by omega)];simp only [];rw [if_pos (by omega)]
 rw [World.cell?_setCells_out b _ _ _ _ (fun _ _=>by simp only [z];omega),h s hs];refine congrArg some (Pg.at_eq (fun _=>rfl) (fun _ _=>rfl) fun h9=>?_);show _=(if _ then _ else _);rw [if_neg (by omega)]
theorem cZ.setCells {b o:Nat} {w w':World} (h:cZ b o w w') (z n:Nat) (hn:z+n<=16) (f:Nat->Int):cZ b o w (w'.setCells b (o+9+z) ((List.range n).map fun j=>Value.int .i64 (f j))):=by
 have y:((List.range n).map fun j=>Value.int .i64 (f j)).length=n:=by simp
 refine ⟨h.only.setCells (by simp) _ _,fun T cs e=>?_,fun x hx=>?_⟩
 ·obtain ⟨h0,d⟩:=h.row T cs e;exact d.setCells _ _
 rw [World.cell?_setCells_out b _ _ _ _ (fun _ _=>by simp only [y];omega)];exact h.cell x hx
set_option maxHeartbeats 1600000
theorem fQ (w:World) (p b:Nat) (P:Pl) (h:dQ w p b P) (c:Int) (hc:IsC c) (i:Nat) (hi:i<P.n) (hp:(P.pg i).partly c=true) (hb:∀ j,j<i->(P.pg j).partly c=false) :
  Calls prog 219 #[.pointer (some ⟨p,0,none⟩),.int .i64 c] w fun e w'=>
   e=.returned (.tuple #[.int .i64 ((16*i+(P.pg i).gap c*bsz c:Nat):Int),.int .i64 0])/\dQ w' p b (P.set i ((P.pg i).take c ((P.pg i).gap c) fun _=>0))/\Only [b] w w':=by
 refine aF fun R hR=>?_;have y7:Hid (aMF c=true):=wW.2 hc;have y2:Hid (idx (fun i=>(P.pg i).partly c) P.n=(i:Int)):=by
  have e1:=lD (f:=fun i=>(P.pg i).partly c) hi hp hb;show _=_;rw [kY (by rw [e1];exact hi),e1]
 obtain ⟨y,h1⟩:∃ x,x=P.pg i:=⟨_,rfl⟩;have hg:y.gap c<bpt c:=by rw [h1];exact ((h.ok i hi).gap hc hp).1
 have d:y.cls=c:=by rw [h1];exact (Pg.bF.1 hp).1
 have x5:Hid ((P.pg i).gap c=y.gap c):=by show _=_;rw [h1]
 have x4:Hid (∀ k,(P.pg i).take c k (fun _=>0)=y.take c k (fun _=>0)):=by intro k;rw [h1]
 have y3:Hid ((P.pg i).cls = -1\/(P.pg i).cls=c):=.inr (Pg.bF.1 hp).1;have y4:=aA h1;clear hp hb h1;obtain ⟨cap,h0,hf,y8,_,_⟩:=h.facts;have h2:=aA h;clear h;have y6:=h2.o.n24;have a2:=h2.o.facts.choose_spec.2.2.2;have x3:Only [] w (w.alloc (.cells #[.int .i64 c] 3)):=(Only.refl _ _).alloc _;have h7:(w.alloc (.cells #[.int .i64 c] 3)).cell? ⟨w.heap.size,0,none⟩=some (.int .i64 c):=(Row.new w 3 [.int .i64 c]).cell 0 rfl;have h6:=aA (h2.o.only x3 (by simp) (by simp));go_in;go_wp2_with fail;refine (tC _ _ _ _ h6.o _).mono ?_;rintro e _ ⟨rfl,rfl⟩;rw [y7.o];go_wp2_with fail;refine (uS _ b P.n cap P.pg y6 h6.o.pg w.heap.size c hc h7).mono ?_;rintro e w2 ⟨rfl,o2⟩;rw [y2.o];have h9:=aA (h6.o.only o2 (by simp) (by simp));have x6:=o2.cell h7 (by simp);obtain ⟨z5,z0,zf,x9,zp,zb⟩:=h9.o.facts;have h4:gQ w2 b (i*25) y:=by rw [y4.o];exact h9.o.pg i hi
 have y9:=h4.used (k:=y.gap c) (by have:=hc.sz;omega);have O2:=aA (x3.trans o2 (by simp));have z3:Hid (cZ b (i*25) w2 w2):=cZ.refl _ _ _;have y1:w.heap.size≠b:=by omega
 have b0:b≠w.heap.size:=by omega
 clear o2 h7 h0 hf y8 x3;generalize x7:y.gap c=k at*;have HG:=aA x7;have h5:=hc.blk hg;have a3:=hc.sz;obtain ⟨m,hm⟩:∃ m,m=k*bsz c:=⟨_,rfl⟩;obtain ⟨z,hz⟩:∃ z,z=bsz c:=⟨_,rfl⟩;have HM:=aA hm;have HZ:=aA hz;have z1:(k:Int)*(z:Int)=(m:Int):=by rw [hm,hz];simp
 have a1:((k:Int)+1)*(z:Int)=(m:Int)+(z:Int):=by rw [Int.add_mul,Int.one_mul,z1]
 have x2:m+z<=16:=by have:=h5.1;rw [hm,hz];exact this
 have a8:z<=8:=by omega
 have z2:0<z:=by omega
 have z6:¬ 16=m:=by omega
 have z7:(m:Int)+(z:Int)<=16:=by omega
 have z8:(0:Int)<=m:=by omega
 have z9:(m:Int)<=(m:Int)+(z:Int):=by omega
 have a0:(0:Int)<=(m:Int)+(z:Int):=by omega
 have a4:IntKind.i64.wrap (m:Int)=m:=IntWalk.i64_in _ (by omega);have a5:IntKind.i64.wrap ((m:Int)+(z:Int))=(m:Int)+(z:Int):=IntWalk.i64_in _ (by omega);have a6:IntKind.i64.wrap ((k:Int)+1)=(k:Int)+1:=IntWalk.i64_in _ (by omega);have h3:∀ wx,Calls prog 208 #[.int .i64 c] wx (aO wx (.int .i64 (z:Int))):=fun wx=>by rw [HZ.o];exact tX wx c hc
 clear hm hz h5;clear x7;go_wp2_with fail;have h8:=zX w2 b (i*25) y h4 (by rw [d];exact hc) (by rw [d,HG.o];exact hg);rw [d,HG.o] at h8;go_fit h8;clear h8;rintro e w3 ⟨rfl,n3,rfl⟩;have x1:k<8:=by omega
 have zP:=aA ((h4.drewN n3).aBF x1 true);have zO:=aA ((z3.o.drewN n3).aPH x1 (.bool true));have zc:((w2.drewN n3).setCell ⟨b,i*25+1+k,none⟩ (.bool true)).cell? ⟨w.heap.size,0,none⟩=some (.int .i64 c):=(((cZ.refl b (i*25) w2).drewN n3).aPH x1 (.bool true)).only.cell x6 (by simpa using y1);have y0:∀ x,((w2.drewN n3).setCell ⟨b,i*25+1+k,none⟩ (.bool true)).frozen? ⟨b,x,none⟩=false:=fun x=>by rw [World.frozen?_setCell];exact x9 x
 go_wp2_with fail;generalize (w2.drewN n3).setCell ⟨b,i*25+1+k,none⟩ (.bool true)=w4 at*;clear h4 y9 z0 x9 x6;go_still_tail 13,(by kernel_rfl)
 repeat (first|still_step|still_call (xM (h3 _)))
 refine wpStill_nil ?_;have ez:((m:Int)+(z:Int)).toNat - m=z:=by omega
 rw [ez];change wpList _ _ _ _ _ w4.drew;have y5:∀ wx,(zeroValue 3).run prog wx=.ok (.int .i64 0) wx:=fun wx=>by kernel_rfl
 refine jF rfl (.tmp 61) 23 3 rfl (.int .i64 0) Tryz.underlying23 y5 rfl rfl b (i*25+9+m) z (16 - m) rfl z2 ?c1 ?c2 ?c3
 case c1=>
  intro j hj;have:=zP.o.cell (k:=m+j) (by omega);rw [<-Nat.add_assoc] at this;show (w4.cell? _).isSome=true;rw [this];rfl
 case c2=>exact fun j hj=>y0 _
 have z4:Hid (gQ (w4.drew.setCells b (i*25+9+m) ((List.range z).map fun _=>Value.int .i64 0)) b (i*25) { cls:=y.cls,used:=up y.used k true,cell:=fun j=>if m<=j/\j<m+z then 0 else y.cell j }):=(show gQ w4.drew b (i*25) _ from zP.o).setCells m z x2 (fun _=>0);have x8:Hid (cZ b (i*25) w2 (w4.drew.setCells b (i*25+9+m) ((List.range z).map fun _=>Value.int .i64 0))):=(show cZ b (i*25) w2 w4.drew from zO.o.drewN 1).setCells m z x2 (fun _=>0);rw [nP];have a9:(w4.drew.setCells b (i*25+9+m) ((List.range z).map fun _=>Value.int .i64 0)).cell? ⟨w.heap.size,0,none⟩=some (.int .i64 c):=((show cZ b (i*25) w4 w4.drew from (cZ.refl _ _ _).drewN 1).setCells m z x2 (fun _=>0)).only.cell zc (by simpa using y1);generalize w4.drew.setCells b (i*25+9+m) ((List.range z).map fun _=>Value.int .i64 0)=w5 at*;clear zc y0 zP zO;have a7:IntKind.i64.wrap ((i:Int)*16)=(i:Int)*16:=IntWalk.i64_in _ (by omega);go_wp2_with fail;refine (h3 _).mono ?_;rintro e _ ⟨rfl,rfl⟩;go_wp2;refine hR.o _ _ ⟨?_,?_,?_⟩
 ·have e1:((16*i+(P.pg i).gap c*bsz c:Nat):Int)=(i:Int)*16+(m:Int):=by rw [x5.o,<-HM.o];omega
  rw [e1];rfl
 ·rw [x5.o];refine h9.o.turn hi ?_ x8.o (h2.o.ok.set ((h2.o.ok i hi).take hc y3.o hg _));rw [x4.o k];have e2:y.take c k (fun _=>0)={ cls:=y.cls,used:=up y.used k true,cell:=fun j=>if m<=j/\j<m+z then 0 else y.cell j }:=by
   unfold Pg.take;rw [d,HM.o,HZ.o]
  rw [e2];exact z4.o
 exact (O2.o.mono (by simp):Only [b] w w2).trans x8.o.only (by simp)
theorem iM (w:World) (p b:Nat) (P:Pl) (h:dQ w p b P) (c:Int) (hc:IsC c) (hn:∀ j,j<P.n->(P.pg j).partly c=false) (i:Nat) (hi:i<P.n) (hp:(P.pg i).cls<0) (hb:∀ j,j<i->¬ (P.pg j).cls<0) :
  Calls prog 219 #[.pointer (some ⟨p,0,none⟩),.int .i64 c] w fun e w'=>
   e=.returned (.tuple #[.int .i64 ((16*i:Nat):Int),.int .i64 0])/\dQ w' p b (P.set i ((P.pg i).take c 0 fun _=>0))/\Only [b] w w':=by
 refine aF fun R hR=>?_;have z9:Hid (aMF c=true):=wW.2 hc;have z3:Hid (idx (fun i=>(P.pg i).partly c) P.n = -1):=by
  show _=_;rw [sJ (by rw [fP (f:=fun i=>(P.pg i).partly c) hn];omega)]
 have y0:Hid (idx (fun i=>decide ((P.pg i).cls<0)) P.n=(i:Int)):=by
  have e1:=lD (f:=fun i=>decide ((P.pg i).cls<0)) hi (by simpa using hp) (fun j hj=>by simpa using hb j hj);show _=_;rw [kY (by rw [e1];exact hi),e1]
 have h2:(P.pg i).cls = -1:=((h.ok i hi).neg).1 hp;obtain ⟨y,h6⟩:∃ x,x=({ P.pg i with cls:=c }:Pg):=⟨_,rfl⟩;have h8:y.gap c=0:=by
  rw [h6];exact lD (by have:=hc.sz;omega) (by show (!(P.pg i).used 0)=true;rw [(h.ok i hi).free h2];rfl) (fun j hj=>by omega)
 have hg:y.gap c<bpt c:=by have:=hc.sz;omega
 have h3:y.cls=c:=by rw [h6]
 have y2:=aA h8;have y1:Hid (∀ k,(P.pg i).take c k (fun _=>0)=y.take c k (fun _=>0)):=by intro k;rw [h6];rfl
 have z4:Hid ((P.pg i).cls = -1\/(P.pg i).cls=c):=.inl h2;have z5:=aA h6;clear hp hb h6 hn h8 h2;obtain ⟨cap,h0,hf,a0,_,_⟩:=h.facts;have h4:=aA h;clear h;have y4:=h4.o.n24;have b3:=h4.o.facts.choose_spec.2.2.2;have x7:Only [] w (w.alloc (.cells #[.int .i64 c] 3)):=(Only.refl _ _).alloc _;have x3:(w.alloc (.cells #[.int .i64 c] 3)).cell? ⟨w.heap.size,0,none⟩=some (.int .i64 c):=(Row.new w 3 [.int .i64 c]).cell 0 rfl;have h5:=aA (h4.o.only x7 (by simp) (by simp));go_in;go_wp2_with fail;refine (tC _ _ _ _ h5.o _).mono ?_;rintro e _ ⟨rfl,rfl⟩;rw [z9.o];go_wp2_with fail;refine (uS _ b P.n cap P.pg y4 h5.o.pg w.heap.size c hc x3).mono ?_;rintro e w2 ⟨rfl,o2⟩;rw [z3.o];obtain ⟨z2,z0,zf,d,zp,zb⟩:=(h5.o.only o2 (by simp) (by simp)).facts;go_wp2_with fail;refine (aAZ _ b P.n z2 P.pg y4 (h5.o.only o2 (by simp) (by simp)).pg).mono ?_;rintro e w3 ⟨rfl,o3⟩;rw [y0.o];clear z0 zf d zp zb;have h7:=aA ((h5.o.only o2 (by simp) (by simp)).only o3 (by simp) (by simp));have y6:=o3.cell (o2.cell x3 (by simp)) (by simp);obtain ⟨a6,z0,zf,d,zp,zb⟩:=h7.o.facts;have O2:=aA ((x7.trans o2 (by simp)).trans o3 (by simp));have y7:=(h7.o.pg i hi).cls;have x9:w.heap.size≠b:=by omega
 have c5:b≠w.heap.size:=by omega
 have a5:p≠b:=h7.o.ne;clear o2 o3 x3 h0 hf a0 x7;have x1:gQ ((w3.setCell ⟨b,i*25,none⟩ (.int .i64 c)).drew) b (i*25) y:=by rw [z5.o];exact (h7.o.pg i hi).aJm c |>.drewN 1
 have x8:Hid (cZ b (i*25) w3 ((w3.setCell ⟨b,i*25,none⟩ (.int .i64 c)).drew)):=((cZ.refl _ _ _).set 0 (by omega) _).drewN 1;have a1:=x1.used (k:=y.gap c) (by have:=hc.sz;omega);have y5:=x8.o.only.cell y6 (by simpa using x9);have y8:=x8.o.only.cell z0 (by simpa using a5);have y3:∀ x,((w3.setCell ⟨b,i*25,none⟩ (.int .i64 c)).drew).frozen? ⟨b,x,none⟩=false:=fun x=>by rw [show ∀ (wx:World) a,wx.drew.frozen? a=wx.frozen? a from fun _ _=>rfl,World.frozen?_setCell];exact d x
 go_wp2_with fail;go_still_tail 8,(by kernel_rfl);change wpList _ _ _ _ _ w3.drew;have z7:w3.drew.frozen? ⟨b,i*25,none⟩=false:=d _;have z8:w3.drew.cell? ⟨b,i*25,none⟩=some (.int .i64 (P.pg i).cls):=y7;refine wpList_plain rfl fun K hK=>?_;unfold Oper.wp;go_simp;refine hK _ _ ?_;clear hK K;refine wpList_nil ?_;generalize (w3.setCell ⟨b,i*25,none⟩ (.int .i64 c)).drew=w2 at*;clear y6 z0 d y7 z8 z7;have z0:=y8;have d:=y3;clear y8 y3;generalize h8:y.gap c=k at*;have HG:=aA h8;have x2:=hc.blk hg;have b4:=hc.sz;obtain ⟨m,hm⟩:∃ m,m=k*bsz c:=⟨_,rfl⟩;obtain ⟨z,hz⟩:∃ z,z=bsz c:=⟨_,rfl⟩;have HM:=aA hm;have HZ:=aA hz;have a2:(k:Int)*(z:Int)=(m:Int):=by rw [hm,hz];simp
 have b2:((k:Int)+1)*(z:Int)=(m:Int)+(z:Int):=by rw [Int.add_mul,Int.one_mul,a2]
 have x6:m+z<=16:=by have:=x2.1;rw [hm,hz];exact this
 have b9:z<=8:=by omega
 have a3:0<z:=by omega
 have a7:¬ 16=m:=by omega
 have a8:(m:Int)+(z:Int)<=16:=by omega
 have a9:(0:Int)<=m:=by omega
 have b0:(m:Int)<=(m:Int)+(z:Int):=by omega
 have b1:(0:Int)<=(m:Int)+(z:Int):=by omega
 have b5:IntKind.i64.wrap (m:Int)=m:=IntWalk.i64_in _ (by omega);have b6:IntKind.i64.wrap ((m:Int)+(z:Int))=(m:Int)+(z:Int):=IntWalk.i64_in _ (by omega);have b7:IntKind.i64.wrap ((k:Int)+1)=(k:Int)+1:=IntWalk.i64_in _ (by omega);have h9:∀ wx,Calls prog 208 #[.int .i64 c] wx (aO wx (.int .i64 (z:Int))):=fun wx=>by rw [HZ.o];exact tX wx c hc
 clear hm hz x2;clear h8;go_wp2_with fail;have x4:=zX w2 b (i*25) y x1 (by rw [h3];exact hc) (by rw [h3,HG.o];exact hg);rw [h3,HG.o] at x4;go_fit x4;clear x4;rintro e c0 ⟨rfl,n3,rfl⟩;have x5:k<8:=by omega
 have zP:=aA ((x1.drewN n3).aBF x5 true);have zO:=aA ((x8.o.drewN n3).aPH x5 (.bool true));have zc:((w2.drewN n3).setCell ⟨b,i*25+1+k,none⟩ (.bool true)).cell? ⟨w.heap.size,0,none⟩=some (.int .i64 c):=(((cZ.refl b (i*25) w2).drewN n3).aPH x5 (.bool true)).only.cell y5 (by simpa using x9);have z1:∀ x,((w2.drewN n3).setCell ⟨b,i*25+1+k,none⟩ (.bool true)).frozen? ⟨b,x,none⟩=false:=fun x=>by rw [World.frozen?_setCell];exact d x
 go_wp2_with fail;generalize (w2.drewN n3).setCell ⟨b,i*25+1+k,none⟩ (.bool true)=w4 at*;clear x1 a1 z0 d y5;go_still_tail 13,(by kernel_rfl)
 repeat (first|still_step|still_call (xM (h9 _)))
 refine wpStill_nil ?_;have ez:((m:Int)+(z:Int)).toNat - m=z:=by omega
 rw [ez];change wpList _ _ _ _ _ w4.drew;have z6:∀ wx,(zeroValue 3).run prog wx=.ok (.int .i64 0) wx:=fun wx=>by kernel_rfl
 refine jF rfl (.tmp 61) 23 3 rfl (.int .i64 0) Tryz.underlying23 z6 rfl rfl b (i*25+9+m) z (16 - m) rfl a3 ?c1 ?c2 ?c3
 case c1=>
  intro j hj;have:=zP.o.cell (k:=m+j) (by omega);rw [<-Nat.add_assoc] at this;show (w4.cell? _).isSome=true;rw [this];rfl
 case c2=>exact fun j hj=>z1 _
 have a4:Hid (gQ (w4.drew.setCells b (i*25+9+m) ((List.range z).map fun _=>Value.int .i64 0)) b (i*25) { cls:=y.cls,used:=up y.used k true,cell:=fun j=>if m<=j/\j<m+z then 0 else y.cell j }):=(show gQ w4.drew b (i*25) _ from zP.o).setCells m z x6 (fun _=>0);have y9:Hid (cZ b (i*25) w3 (w4.drew.setCells b (i*25+9+m) ((List.range z).map fun _=>Value.int .i64 0))):=(show cZ b (i*25) w3 w4.drew from zO.o.drewN 1).setCells m z x6 (fun _=>0);rw [nP];have c4:(w4.drew.setCells b (i*25+9+m) ((List.range z).map fun _=>Value.int .i64 0)).cell? ⟨w.heap.size,0,none⟩=some (.int .i64 c):=((show cZ b (i*25) w4 w4.drew from (cZ.refl _ _ _).drewN 1).setCells m z x6 (fun _=>0)).only.cell zc (by simpa using x9);generalize w4.drew.setCells b (i*25+9+m) ((List.range z).map fun _=>Value.int .i64 0)=w5 at*;clear zc z1 zP zO;have b8:IntKind.i64.wrap ((i:Int)*16)=(i:Int)*16:=IntWalk.i64_in _ (by omega);go_wp2_with fail;refine (h9 _).mono ?_;rintro e _ ⟨rfl,rfl⟩;go_wp2;refine hR.o _ _ ⟨?_,?_,?_⟩
 ·have e1:((16*i:Nat):Int)=(i:Int)*16+(m:Int):=by have h1:=HM.o;rw [y2.o,Nat.zero_mul] at h1;omega
  rw [e1];rfl
 ·rw [<-y2.o];refine h7.o.turn hi ?_ y9.o (h4.o.ok.set ((h4.o.ok i hi).take hc z4.o hg _));rw [y1.o k];have e2:y.take c k (fun _=>0)={ cls:=y.cls,used:=up y.used k true,cell:=fun j=>if m<=j/\j<m+z then 0 else y.cell j }:=by
   unfold Pg.take;rw [h3,HM.o,HZ.o]
  rw [e2];exact a4.o
 exact (O2.o.mono (by simp):Only [b] w w3).trans y9.o.only (by simp)
theorem fU (w:World) (p b:Nat) (P:Pl) (h:dQ w p b P) (c:Int) (hc:IsC c) (hn:∀ j,j<P.n->(P.pg j).partly c=false) (hp:∀ j,j<P.n->¬ (P.pg j).cls<0) :
  Calls prog 219 #[.pointer (some ⟨p,0,none⟩),.int .i64 c] w fun e w'=>
   e=.returned (.tuple #[.int .i64 0,.int .i64 14])/\dQ w' p b P/\Only [b] w w':=by
 refine aF fun R hR=>?_;have h6:Hid (aMF c=true):=wW.2 hc;have h4:Hid (idx (fun i=>(P.pg i).partly c) P.n = -1):=by
  show _=_;rw [sJ (by rw [fP (f:=fun i=>(P.pg i).partly c) hn];omega)]
 have d:Hid (idx (fun i=>decide ((P.pg i).cls<0)) P.n = -1):=by
  show _=_;rw [sJ (by rw [fP (f:=fun i=>decide ((P.pg i).cls<0)) (fun j hj=>by simpa using hp j hj)];omega)]
 clear hp hn;obtain ⟨cap,h0,hf,h7,_,_⟩:=h.facts;have z:=aA h;clear h;have h1:=z.o.n24;have h8:=z.o.facts.choose_spec.2.2.2;have h2:Only [] w (w.alloc (.cells #[.int .i64 c] 3)):=(Only.refl _ _).alloc _;have h5:(w.alloc (.cells #[.int .i64 c] 3)).cell? ⟨w.heap.size,0,none⟩=some (.int .i64 c):=(Row.new w 3 [.int .i64 c]).cell 0 rfl;have y:=aA (z.o.only h2 (by simp) (by simp));go_in;go_wp2_with fail;refine (tC _ _ _ _ y.o _).mono ?_;rintro e _ ⟨rfl,rfl⟩;rw [h6.o];go_wp2_with fail;refine (uS _ b P.n cap P.pg h1 y.o.pg w.heap.size c hc h5).mono ?_;rintro e w2 ⟨rfl,o2⟩;rw [h4.o];obtain ⟨h3,z0,zf,h9,zp,zb⟩:=(y.o.only o2 (by simp) (by simp)).facts;go_wp2_with fail;refine (aAZ _ b P.n h3 P.pg h1 (y.o.only o2 (by simp) (by simp)).pg).mono ?_;rintro e w3 ⟨rfl,o3⟩;rw [d.o];go_wp2;exact hR.o _ _ ⟨rfl,(y.o.only o2 (by simp) (by simp)).only o3 (by simp) (by simp),((h2.trans o2 (by simp)).trans o3 (by simp)).mono (by simp)⟩
theorem kL (w:World) (p b:Nat) (P:Pl) (h:dQ w p b P) (c:Int) (hc:c<0\/2<c) :
  Calls prog 219 #[.pointer (some ⟨p,0,none⟩),.int .i64 c] w fun e w'=>
   e=.returned (.tuple #[.int .i64 0,.int .i64 1])/\dQ w' p b P/\Only [b] w w':=by
 refine aF fun R hR=>?_;have d:Hid (aMF c=false):=by
  cases hq:aMF c with
  | false=>rfl
  | true=>have:=wW.1 hq;unfold IsC at this;omega
 have z:Only [] w (w.alloc (.cells #[.int .i64 c] 3)):=(Only.refl _ _).alloc _;have y:=aA (h.only z (by simp) (by simp));go_in;go_wp2_with fail;refine (tC _ _ _ _ y.o _).mono ?_;rintro e _ ⟨rfl,rfl⟩;rw [d.o];go_wp2;exact hR.o _ _ ⟨rfl,y.o,z.mono (by simp)⟩
theorem aEb (w:World) (p b:Nat) (P:Pl) (h:dQ w p b P) (c:Int) :
  Calls prog 219 #[.pointer (some ⟨p,0,none⟩),.int .i64 c] w fun e w'=>
   e=.returned (.tuple #[.int .i64 (P.alloc c).1,.int .i64 (P.alloc c).2.1])/\dQ w' p b (P.alloc c).2.2/\Only [b] w w':=by
 rcases P.gX c with y|⟨y,⟨i,z,d,hb⟩|⟨hn,⟨i,z,d,hb⟩|hf⟩⟩
 ·rw [Pl.kL y];exact kL w p b P h c y
 ·rw [Pl.fQ y z d hb];exact fQ w p b P h c y i z d hb
 ·rw [Pl.iM y hn z d hb];exact iM w p b P h c y hn i z d hb
 rw [Pl.fU y hn hf];exact fU w p b P h c y hn hf
set_option maxHeartbeats 400000
theorem aGB (w:World) (p b:Nat) (P:Pl) (h:dQ w p b P) (A:Nat) (hA:A<16*P.n) (e:(P.pg (A / 16)).cls<0) :
  Calls prog 258 #[.pointer (some ⟨p,0,none⟩),.int .i64 A] w (aO w (.tuple #[.pointer none,.int .i64 0,.bool false])):=by
 refine aF fun R d=>?_;obtain ⟨cap,h0,hf,_⟩:=h.facts;have h1:=h.n24;obtain ⟨i,y⟩:∃ i,i=A / 16:=⟨_,rfl⟩;rw [<-y] at e;have z:i<P.n:=by omega
 have hq:(A:Int) / 16=(i:Int):=by omega
 have h2:=(h.pg i z).cls;have HI:=aA y;clear h y;go_in;go_wp2_with fail;go_ret3;exact d.o _ _ ⟨rfl,rfl⟩
theorem aGA (w:World) (p b:Nat) (P:Pl) (h:dQ w p b P) (A:Nat) (hA:A<16*P.n) (hc:¬ (P.pg (A / 16)).cls<0) :
  Calls prog 258 #[.pointer (some ⟨p,0,none⟩),.int .i64 A] w fun e w'=>
   e=.returned (.tuple #[.pointer (some ⟨b,A / 16*25,none⟩),.int .i64 ((A % 16 / bsz (P.pg (A / 16)).cls:Nat):Int),.bool ((P.pg (A / 16)).used (A % 16 / bsz (P.pg (A / 16)).cls))])/\∃ n,w'=w.drewN n:=by
 refine aF fun R hR=>?_;obtain ⟨cap,h0,hf,_⟩:=h.facts;have h7:=h.n24;have h3:=aA hR;obtain ⟨i,hi⟩:∃ i,i=A / 16:=⟨_,rfl⟩;obtain ⟨j,hj⟩:∃ j,j=A % 16:=⟨_,rfl⟩;rw [<-hi,<-hj] at hR;rw [<-hi] at hc;have h2:i<P.n:=by omega
 have h4:j<16:=by omega
 have hq:(A:Int) / 16=(i:Int):=by omega
 have hr:(A:Int) % 16=(j:Int):=by omega
 have y:=h.pg i h2;have h9:=y.cls;have hC:IsC (P.pg i).cls:=by
  rcases (h.ok i h2).cls with h1|h1
  ·omega
  exact h1
 obtain ⟨z,hz⟩:∃ z,z=bsz (P.pg i).cls:=⟨_,rfl⟩;obtain ⟨k,hk⟩:∃ k,k=j / z:=⟨_,rfl⟩;rw [<-hz,<-hk] at hR;have h5:k<8:=by have h1:=(hC.div h4).1;have:=hC.sz;rw [<-hz,<-hk] at h1;omega
 have x2:2<=z:=by have:=hC.sz;omega
 have x3:z<=8:=by have:=hC.sz;omega
 have hu:=y.used h5;have h6:(j:Int) / (z:Int)=(k:Int):=by rw [hk];simp
 have d:∀ wx,Calls prog 208 #[.int .i64 (P.pg i).cls] wx (aO wx (.int .i64 (z:Int))):=fun wx=>by rw [hz];exact tX wx _ hC
 have x1:((z:Int) == 0)=false:=by simp;omega
 have h8:decide ((P.pg i).cls<0)=false:=by simpa using hc
 clear h hi hj hz hk y h3;go_in;go_wp2_with fail;refine (d _).mono ?_;rintro e _ ⟨rfl,rfl⟩;go_wp2;go_quiet (fail);go_wp2_with fail;go_ret3;exact hR.o _ _ ⟨rfl,_,rfl⟩
structure Split (P:Pl) (A i j k z m:Nat):Prop where
 hi:i=A / 16
 hj:j=A % 16
 hz:z=bsz (P.pg i).cls
 hk:k=j / z
 hm:m=k*z
 hin:i<P.n
 aBa:j<16
 hC:IsC (P.pg i).cls
 hk8:k<8
 hz2:2<=z
 hz8:z<=8
 aPN:m+z<=16
 hkp:k<bpt (P.pg i).cls
theorem aFI {P:Pl} (e:P.ok) {A:Nat} (hA:A<16*P.n) (hc:¬ (P.pg (A / 16)).cls<0):∃ i j k z m,Split P A i j k z m:=by
 have y:A / 16<P.n:=by omega
 have d:IsC (P.pg (A / 16)).cls:=by
  rcases (e _ y).cls with h1|h1
  ·omega
  exact h1
 have h0:=d.sz;have hd:=d.div (j:=A % 16) (by omega);exact ⟨_,_,_,_,_,rfl,rfl,rfl,rfl,rfl,y,by omega,d,by omega,by omega,by omega,(d.blk hd.1).1,hd.1⟩
theorem aFy (w:World) (p b:Nat) (P:Pl) (h:dQ w p b P) {A i j k z m:Nat} (hA:A<16*P.n) (s:Split P A i j k z m) :
  Calls prog 258 #[.pointer (some ⟨p,0,none⟩),.int .i64 A] w fun e w'=>
   e=.returned (.tuple #[.pointer (some ⟨b,i*25,none⟩),.int .i64 k,.bool ((P.pg i).used k)])/\∃ n,w'=w.drewN n:=by
 have y:=s.hi;have hc:¬ (P.pg (A / 16)).cls<0:=by rw [<-y];rcases s.hC with h2|h2|h2<;>omega
 have d:=aGA w p b P h A hA hc;rw [<-y,<-s.hj,<-s.hz,<-s.hk] at d;exact d
theorem aAo (w:World) (p b:Nat) (P:Pl) (h:dQ w p b P) (a:Int) :
  Calls prog 234 #[.pointer (some ⟨p,0,none⟩),.int .i64 a] w fun e w'=>
   e=.returned (.tuple #[.int .i64 (P.begin a).1,.int .i64 (P.begin a).2])/\∃ n,w'=w.drewN n:=by
 refine aF fun R hR=>?_
 cases y:P.addr a with
 | false=>
  rw [Pl.oK y] at hR;go_in;go_wp2_with fail;refine (qP _ _ _ _ h _).mono ?_;rintro e _ ⟨rfl,rfl⟩;rw [y];go_wp2;exact hR.o _ _ ⟨rfl,iZ _⟩
 | true=>
  obtain ⟨A,rfl⟩:∃ A:Nat,a=A:=⟨a.toNat,by have:=Pl.iO.1 y;omega⟩;have hA:A<16*P.n:=by have:=Pl.iO.1 y;omega
  have h5:=h.n24
  by_cases hc:(P.pg (A / 16)).cls<0
  ·have hb:=Pl.jU y (by simpa using hc);rw [hb] at hR;clear hb;have HA:=aA y;have d:=qP w _ _ _ h (A:Int);rw [y] at d;clear y;go_in;go_wp2_with fail;go_fit d;rintro e _ ⟨rfl,rfl⟩;go_wp2_with fail;refine (aGB _ _ _ _ h A hA hc).mono ?_;rintro e _ ⟨rfl,rfl⟩;go_wp2;exact hR.o _ _ ⟨rfl,iZ _⟩
  obtain ⟨i,j,k,z,m,s⟩:=aFI h.ok hA hc;have d:=qP w _ _ _ h (A:Int);rw [y] at d;have hq:(A:Int) / 16=(i:Int):=by have:=s.hi;omega
  have h0:=aFy w p b P h hA s;have h4:i<24:=by have:=s.hin;omega
  have h3:m<=16:=by have:=s.aPN;omega
  have h6:(k:Int)*(z:Int)=(m:Int):=by rw [s.hm];simp
  have h7:=(h.pg i s.hin).cls;have h2:∀ wx,Calls prog 208 #[.int .i64 (P.pg i).cls] wx (aO wx (.int .i64 (z:Int))):=fun wx=>by rw [s.hz];exact tX wx _ s.hC
  cases hu:(P.pg i).used k with
  | false=>
   have hb:=Pl.tH y (by simpa using hc) (by have h1:=hu;rw [s.hk,s.hz,s.hj,s.hi] at h1;simpa using h1);rw [hb] at hR;rw [hu] at h0;clear hb y hc;go_in;go_wp2_with fail;go_fit d;rintro e _ ⟨rfl,rfl⟩;go_wp2_with fail;go_fit h0;rintro e _ ⟨rfl,n1,rfl⟩;go_wp2;exact hR.o _ _ ⟨rfl,_,rfl⟩
  | true=>
   have hb:=Pl.kK y (by simpa using hc) (by have h1:=hu;rw [s.hk,s.hz,s.hj,s.hi] at h1;simpa using h1);have e1:P.begin (A:Int)=(((i*16+m:Nat):Int),0):=by rw [hb,s.hm,s.hk,s.hz,s.hj,s.hi];simp
   rw [e1] at hR;rw [hu] at h0;have h8:IntKind.i64.wrap ((i:Int)*16)=(i:Int)*16:=IntWalk.i64_in _ (by omega);clear hb y hc e1 hu;go_in;go_wp2_with fail;go_fit d;rintro e _ ⟨rfl,rfl⟩;go_wp2_with fail;go_fit h0;rintro e _ ⟨rfl,n1,rfl⟩;go_wp2_with fail;refine (h2 _).mono ?_;rintro e _ ⟨rfl,rfl⟩;go_wp2;exact hR.o _ _ ⟨rfl,_,rfl⟩
theorem qM {P:Pl} (y:P.ok) {a:Int} (h:(P.begin a).2=0):∃ A i j k z m:Nat,a=(A:Int)/\A<16*P.n/\Split P A i j k z m/\(P.pg i).used k=true/\(P.begin a).1=((i*16+m:Nat):Int):=by
 obtain ⟨e,h2,h3,h4,h5,h6,h7⟩:=Pl.mQ h;have d:a.toNat<16*P.n:=by have:=Pl.iO.1 e;omega
 obtain ⟨i,j,k,z,m,s⟩:=aFI y d h2;refine ⟨a.toNat,i,j,k,z,m,h7,d,s,?_,?_⟩
 ·rw [s.hk,s.hz,s.hj,s.hi];exact h3
 rw [h4,s.hm,s.hk,s.hz,s.hj,s.hi]
theorem aGr (w:World) (p b:Nat) (P:Pl) (h:dQ w p b P) (a:Int) :
  Calls prog 195 #[.pointer (some ⟨p,0,none⟩),.int .i64 a] w fun e w'=>
   e=.returned (.tuple #[.int .i64 (P.cell a).1,.int .i64 (P.cell a).2])/\∃ n,w'=w.drewN n:=by
 refine aF fun R hR=>?_;have y:=aAo w p b P h a
 by_cases d:(P.begin a).2=0
 ·obtain ⟨A,i,j,k,z,m,rfl,hA,s,hu,h2⟩:=qM h.ok d;have e1:P.cell (A:Int)=((P.pg i).cell j,0):=by unfold Pl.cell;rw [if_pos d,s.hj,s.hi];rfl
  rw [e1] at hR;rw [d] at y;obtain ⟨cap,z0,zf,h7,_⟩:=h.facts;have hq:(A:Int) / 16=(i:Int):=by have:=s.hi;omega
  have hr:(A:Int) % 16=(j:Int):=by have:=s.hj;omega
  have h5:i<24:=by have:=s.hin;have:=h.n24;omega
  have h3:=s.hin;have h1:=s.aBa;have h4:=(h.pg i h3).cell h1;generalize (P.begin (A:Int)).1=B at y;clear e1 h2 d h s hu;go_in;go_wp2_with fail;go_fit y;rintro e _ ⟨rfl,n1,rfl⟩;go_wp2;exact hR.o _ _ ⟨rfl,_,rfl⟩
 have e1:P.cell a=(0,(P.begin a).2):=by unfold Pl.cell;rw [if_neg d]
 rw [e1] at hR;have h6:((P.begin a).2 != 0)=true:=by rw [bne_iff_ne];exact d
 clear d e1;go_in;go_wp2_with fail;go_fit y;rintro e _ ⟨rfl,n1,rfl⟩;go_wp2;exact hR.o _ _ ⟨rfl,_,rfl⟩
theorem iT (w:World) (p b:Nat) (P:Pl) (h:dQ w p b P) (a n:Int) :
  Calls prog 199 #[.pointer (some ⟨p,0,none⟩),.int .i64 a,.int .i64 n] w fun e w'=>
   e=.returned (.int .i64 (P.setCell a n).1)/\dQ w' p b (P.setCell a n).2/\Only [b] w w':=by
 refine aF fun R hR=>?_;have d:=aAo w p b P h a
 by_cases h0:(P.begin a).2=0
 ·obtain ⟨A,i,j,k,z,m,rfl,hA,s,hu,h6⟩:=qM h.ok h0;have e1:P.setCell (A:Int) n=(0,P.set i { P.pg i with cell:=up (P.pg i).cell j n }):=by unfold Pl.setCell;rw [if_pos h0,s.hj,s.hi];rfl
  rw [e1] at hR;rw [h0] at d;obtain ⟨cap,z0,zf,x1,_⟩:=h.facts;have hq:(A:Int) / 16=(i:Int):=by have:=s.hi;omega
  have hr:(A:Int) % 16=(j:Int):=by have:=s.hj;omega
  have h8:i<24:=by have:=s.hin;have:=h.n24;omega
  have h1:=s.hin;have h3:=s.aBa;have h7:=(h.pg i h1).cell h3;have h2:∀ y,dQ ((w.drewN y).setCell ⟨b,i*25+9+j,none⟩ (.int .i64 n)) p b (P.set i { P.pg i with cell:=up (P.pg i).cell j n }):=fun y=>
   (h.drewN y).turn h1 ((((h.pg i h1).drewN y).setCell h3 n)) (by rw [Nat.add_assoc];exact (cZ.refl _ _ _).set _ (by omega) _) (h.ok.set ((h.ok i h1).put _))
  have h4:∀ y,Only [b] w ((w.drewN y).setCell ⟨b,i*25+9+j,none⟩ (.int .i64 n)):=fun y=>((Only.refl [b] w).drewN y).set (by simp) _;have HF:=aA h2;have h5:=aA h4;generalize (P.begin (A:Int)).1=B at d;clear e1 h6 h0 h s hu h2 h4;go_in;go_wp2_with fail;go_fit d;rintro e _ ⟨rfl,y,rfl⟩;go_wp2;exact hR.o _ _ ⟨rfl,HF.o _,h5.o _⟩
 have e1:P.setCell a n=((P.begin a).2,P):=by unfold Pl.setCell;rw [if_neg h0]
 rw [e1] at hR;have h9:((P.begin a).2 == 0)=false:=by rw [beq_eq_false_iff_ne];exact h0
 clear h0 e1;go_in;go_wp2_with fail;go_fit d;rintro e _ ⟨rfl,y,rfl⟩;go_wp2;exact hR.o _ _ ⟨rfl,h.drewN _,(Only.refl _ _).drewN _⟩
theorem aNd (w:World) (p b:Nat) (P:Pl) (h:dQ w p b P) (a:Int) :
  Calls prog 301 #[.pointer (some ⟨p,0,none⟩),.int .i64 a] w fun e w'=>
   e=.returned (.int .i64 (P.free a).1)/\dQ w' p b (P.free a).2/\Only [b] w w':=by
 refine aF fun R hR=>?_;have y:=aAo w p b P h a
 by_cases d:(P.begin a).2=0
 ·rw [d] at y
  by_cases h1:(P.begin a).1=a
  ·obtain ⟨A,i,j,k,z,m,rfl,hA,s,hu,h4⟩:=qM h.ok d;have e1:P.free (A:Int)=(0,P.set i ((P.pg i).release k)):=by
    unfold Pl.free;rw [if_pos d,if_pos h1,s.hk,s.hz,s.hj,s.hi];simp
   rw [e1] at hR;rw [h1] at y;have h7:=fun n1=>aFy (w.drewN n1) p b P (h.drewN n1) hA s;have hrel:=fun n1=>aAM (w.drewN n1) b (i*25) (P.pg i) ((h.pg i s.hin).drewN n1) (fun x=>h.facts.choose_spec.2.2.1 x) k s.hk8;have h3:=s.hin;have H:=aA h;have h6:((P.pg i).release k).ok:=(h.ok i h3).release (by rcases s.hC with h2|h2|h2<;>omega) k
   clear e1 h4 d h s h1;go_in;go_wp2_with fail;go_fit y;rintro e _ ⟨rfl,n1,rfl⟩;go_wp2_with fail;refine (h7 n1).mono ?_;rintro e _ ⟨rfl,n2,rfl⟩;go_wp2_with fail;refine (hrel (n1+n2)).mono ?_;rintro e w3 ⟨rfl,g3,o3⟩;go_wp2;exact hR.o _ _ ⟨rfl,(H.o.drewN _).turn h3 g3 o3 (H.o.ok.set h6),((Only.refl [b] w).drewN _).trans o3.only (by simp)⟩
  have e1:P.free a=(3,P):=by unfold Pl.free;rw [if_pos d,if_neg h1]
  rw [e1] at hR;have h5:((P.begin a).1 != a)=true:=by rw [bne_iff_ne];exact h1
  clear d e1 h1;go_in;go_wp2_with fail;go_fit y;rintro e _ ⟨rfl,n1,rfl⟩;go_wp2;exact hR.o _ _ ⟨rfl,h.drewN _,(Only.refl _ _).drewN _⟩
 have e1:P.free a=((P.begin a).2,P):=by unfold Pl.free;rw [if_neg d]
 rw [e1] at hR;have h5:((P.begin a).2 == 0)=false:=by rw [beq_eq_false_iff_ne];exact d
 have h8:((P.begin a).2 != 0)=true:=by rw [bne_iff_ne];exact d
 clear d e1;go_in;go_wp2_with fail;go_fit y;rintro e _ ⟨rfl,n1,rfl⟩;go_wp2;exact hR.o _ _ ⟨rfl,h.drewN _,(Only.refl _ _).drewN _⟩
