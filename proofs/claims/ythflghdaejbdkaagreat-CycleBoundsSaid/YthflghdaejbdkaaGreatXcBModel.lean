/- Lemmas of this claim. -/
import Derived.Test.YthflghdaejbdkaaGreatXcLib
namespace Go.Proofs.YthflghdaejbdkaaGreat
structure Pg where
 cls:Int
 used:Nat->Bool
 cell:Nat->Int
structure Pl where
 n:Nat
 pg:Nat->Pg
def bsz (c:Int):Nat:=2*2 ^ c.toNat
def bpt (c:Int):Nat:=16 / bsz c
def IsC (c:Int):Prop:=c=0\/c=1\/c=2
theorem IsC.facts {c:Int} (h:IsC c):(bsz c=2/\bpt c=8)\/(bsz c=4/\bpt c=4)\/(bsz c=8/\bpt c=2):=by
 rcases h with rfl|rfl|rfl
 ·exact .inl ⟨rfl,rfl⟩
 ·exact .inr (.inl ⟨rfl,rfl⟩)
 exact .inr (.inr ⟨rfl,rfl⟩)
theorem IsC.sz {c:Int} (h:IsC c):2<=bsz c/\bsz c<=8/\2<=bpt c/\bpt c<=8:=by
 rcases h.facts with ⟨h1,h2⟩|⟨h1,h2⟩|⟨h1,h2⟩<;>omega
theorem IsC.blk {c:Int} (h:IsC c) {k:Nat} (y:k<bpt c):k*bsz c+bsz c<=16/\(k+1)*bsz c=k*bsz c+bsz c:=by
 rcases h.facts with ⟨h1,h2⟩|⟨h1,h2⟩|⟨h1,h2⟩<;>(rw [h1];rw [h2] at y;omega)
theorem IsC.div {c:Int} (h:IsC c) {j:Nat} (y:j<16):j / bsz c<bpt c/\j / bsz c*bsz c<=j/\j<j / bsz c*bsz c+bsz c/\j % bsz c=j - j / bsz c*bsz c:=by
 rcases h.facts with ⟨h1,h2⟩|⟨h1,h2⟩|⟨h1,h2⟩<;>(rw [h1,h2];omega)
theorem IsC.aOx {c:Int} (h:IsC c) {k j:Nat} (y:k*bsz c<=j) (z:j<k*bsz c+bsz c):j / bsz c=k:=by
 rcases h.facts with ⟨h3,_⟩|⟨h3,_⟩|⟨h3,_⟩<;>(rw [h3] at y z ⊢;omega)
theorem IsC.mul_div {c:Int} (h:IsC c) (k:Nat):k*bsz c / bsz c=k/\k*bsz c % bsz c=0:=by
 rcases h.facts with ⟨h3,h4⟩|⟨h3,h4⟩|⟨h3,h4⟩<;>(rw [h3];omega)
theorem IsC.blocks {c:Int} (h:IsC c) {k l:Nat} (y:k*bsz c=l*bsz c):k=l:=by
 rcases h.facts with ⟨h3,h4⟩|⟨h3,h4⟩|⟨h3,h4⟩<;>(rw [h3] at y;omega)
def cnt (u:Nat->Bool):Nat->Nat
 | 0=>0
 | k+1=>cnt u k+if u k then 1 else 0
theorem qN (u:Nat->Bool) (k:Nat):cnt u k<=k:=by
 induction k with
 | zero=>exact Nat.le_refl _
 | succ k y=>unfold cnt;split<;>omega
theorem fG {u v:Nat->Bool} {k:Nat} (h:∀ j,j<k->u j=v j):cnt u k=cnt v k:=by
 induction k with
 | zero=>rfl
 | succ k y=>unfold cnt;rw [y (fun j z=>h j (by omega)),h k (by omega)]
theorem oV {u:Nat->Bool} {k:Nat} (h:∀ j,j<k->u j=false):cnt u k=0:=by
 induction k with
 | zero=>rfl
 | succ k y=>unfold cnt;rw [y (fun j z=>h j (by omega)),h k (by omega)];rfl
theorem aPb {u:Nat->Bool} {k j:Nat} (z:j<k) (h:u j=true):0<cnt u k:=by
 induction k with
 | zero=>omega
 | succ k y=>
  unfold cnt
  by_cases e:j=k
  ·subst e;rw [h];simp
  have:=y (by omega);omega
theorem aGf {u:Nat->Bool} {k:Nat}:cnt u k=k↔∀ j,j<k->u j=true:=by
 induction k with
 | zero=>simp [cnt]
 | succ k z=>
  have:=qN u k;unfold cnt;constructor
  ·intro h j d
   by_cases y:u k=true
   ·by_cases e:j=k
    ·rw [e];exact y
    exact z.1 (by rw [y] at h;simpa using h) j (by omega)
   simp at y;rw [y] at h;simp at h;omega
  intro h;rw [h k (by omega),z.2 (fun j d=>h j (by omega))];rfl
theorem aAW {u:Nat->Bool} {k:Nat}:cnt u k<k↔∃ j,j<k/\u j=false:=by
 constructor
 ·intro h;apply Classical.byContradiction;intro d;have:cnt u k=k:=aGf.2 fun j y=>by
   cases z:u j with
   | true=>rfl
   | false=>exact absurd ⟨j,y,z⟩ d
  omega
 rintro ⟨j,y,z⟩;have e:=qN u k;rcases Nat.lt_or_ge (cnt u k) k with h|h
 ·exact h
 have:=aGf.1 (by omega:cnt u k=k) j y;rw [z] at this;cases this
theorem qB {u:Nat->Bool} {k:Nat}:cnt u k=0↔∀ j,j<k->u j=false:=by
 constructor
 ·intro h j y
  cases z:u j with
  | false=>rfl
  | true=>have:=aPb y z;omega
 exact oV
theorem aGe {u:Nat->Bool} {k m:Nat} (d:k<=m) (h:∀ j,k<=j->j<m->u j=false):cnt u m=cnt u k:=by
 induction m with
 | zero=>rw [show k=0 by omega]
 | succ m z=>
  by_cases e:k=m+1
  ·rw [e]
  rw [show cnt u (m+1)=cnt u m+if u m then 1 else 0 from rfl,z (by omega) (fun j y h2=>h j y (by omega)),h m (by omega) (by omega)];rfl
def up {α:Type} (f:Nat->α) (k:Nat) (x:α):Nat->α:=fun j=>if j=k then x else f j
theorem bM {α:Type} (f:Nat->α) (k:Nat) (x:α):up f k x k=x:=by simp [up]
theorem aU {α:Type} (f:Nat->α) {k j:Nat} (x:α) (h:j≠k):up f k x j=f j:=by simp [up,h]
theorem aBU {u:Nat->Bool} {k m:Nat} (d:k<m) (h:u k=false):cnt (up u k true) m=cnt u m+1:=by
 induction m with
 | zero=>omega
 | succ m y=>
  unfold cnt
  by_cases e:k=m
  ·subst e;rw [bM,h,fG (v:=u) (fun j z=>aU _ _ (by omega))];simp
  rw [y (by omega),aU _ _ (by omega)];omega
theorem sJ {u:Nat->Bool} {k m:Nat} (d:k<m) (h:u k=true):cnt (up u k false) m+1=cnt u m:=by
 induction m with
 | zero=>omega
 | succ m y=>
  unfold cnt
  by_cases e:k=m
  ·subst e;rw [bM,h,fG (v:=u) (fun j z=>aU _ _ (by omega))];simp
  rw [aU _ _ (by omega)];have:=y (by omega);omega
def fst (f:Nat->Bool):Nat->Nat
 | 0=>0
 | m+1=>if fst f m<m then fst f m else if f m then m else m+1
theorem aDC (f:Nat->Bool) (m:Nat):fst f m<=m:=by
 induction m with
 | zero=>exact Nat.le_refl _
 | succ m y=>unfold fst;split;omega;split<;>omega
theorem dQ (f:Nat->Bool) (m:Nat):(∀ j,j<fst f m->f j=false)/\(fst f m<m->f (fst f m)=true):=by
 induction m with
 | zero=>exact ⟨fun j d=>by simp [fst] at d,fun h=>by simp [fst] at h⟩
 | succ m y=>
  unfold fst;have h0:=aDC f m;split
  ·rename_i h;exact ⟨y.1,fun _=>y.2 h⟩
  have e:fst f m=m:=by omega
  split
  ·rename_i z;exact ⟨by rw [e] at y;exact y.1,fun _=>z⟩
  rename_i z;refine ⟨fun j d=>?_,fun h=>by omega⟩
  by_cases e2:j=m
  ·rw [e2];simpa using z
  exact y.1 j (by omega)
theorem kV {f:Nat->Bool} {m k:Nat} (d:k<m) (h:f k=true) (hb:∀ j,j<k->f j=false):fst f m=k:=by
 have z:=dQ f m;rcases Nat.lt_trichotomy (fst f m) k with y|y|y
 ·have:=z.2 (by omega);rw [hb _ y] at this;cases this
 ·exact y
 have:=z.1 k y;rw [h] at this;cases this
theorem fP {f:Nat->Bool} {m:Nat} (hb:∀ j,j<m->f j=false):fst f m=m:=by
 have y:=dQ f m;have z:=aDC f m;rcases Nat.lt_or_ge (fst f m) m with h|h
 ·have:=y.2 h;rw [hb _ h] at this;cases this
 omega
theorem aDB {f:Nat->Bool} {m k:Nat} (d:k<m) (h:f k=true):fst f m<=k/\fst f m<m/\f (fst f m)=true:=by
 have z:=dQ f m;have:fst f m<=k:=by
  rcases Nat.lt_or_ge k (fst f m) with y|y
  ·have:=z.1 k y;rw [h] at this;cases this
  exact y
 exact ⟨this,by omega,z.2 (by omega)⟩
theorem rY {f g:Nat->Bool} {m:Nat} (h:∀ j,j<m->f j=g j):fst f m=fst g m:=by
 induction m with
 | zero=>rfl
 | succ m y=>unfold fst;rw [y (fun j z=>h j (by omega)),h m (by omega)]
def idx (f:Nat->Bool) (n:Nat):Int:=if fst f n<n then (fst f n:Nat) else -1
theorem kT {f:Nat->Bool} {n:Nat} (h:fst f n<n):idx f n=(fst f n:Nat):=by unfold idx;rw [if_pos h]
theorem rM {f:Nat->Bool} {n:Nat} (h:¬ fst f n<n):idx f n = -1:=by unfold idx;rw [if_neg h]
structure Pg.ok (p:Pg):Prop where
 cls:p.cls = -1\/IsC p.cls
 free:p.cls = -1->∀ k,p.used k=false
 high:p.cls≠-1->∀ k,bpt p.cls<=k->p.used k=false
 some1:p.cls≠-1->∃ k,k<bpt p.cls/\p.used k=true
def Pl.ok (P:Pl):Prop:=∀ i,i<P.n->(P.pg i).ok
def Pg.zero:Pg:={ cls:=-1,used:=fun _=>false,cell:=fun _=>0 }
def Pl.zero (n:Nat):Pl:={ n:=n,pg:=fun _=>Pg.zero }
theorem Pg.aBf:Pg.zero.ok:=⟨.inl rfl,fun _ _=>rfl,fun h=>absurd rfl h,fun h=>absurd rfl h⟩
theorem Pl.aBf (n:Nat):(Pl.zero n).ok:=fun _ _=>Pg.aBf
def Pg.count (p:Pg):Nat:=cnt p.used 8
theorem Pg.count_le (p:Pg):p.count<=8:=qN _ _
theorem Pg.ok.isC {p:Pg} (h:p.ok) (z:p.cls≠-1):IsC p.cls:=by rcases h.cls with y|y;exact absurd y z;exact y
theorem Pg.ok.ge {p:Pg} (h:p.ok) : -1<=p.cls/\p.cls<=2:=by rcases h.cls with h1|h1|h1|h1<;>omega
theorem Pg.ok.count {p:Pg} (h:p.ok) (y:p.cls≠-1):p.count=cnt p.used (bpt p.cls):=
 aGe (h.isC y).sz.2.2.2 fun j z _=>h.high y j z
theorem Pg.ok.aHV {p:Pg} (h:p.ok) (y:p.cls = -1):p.count=0:=oV fun j _=>h.free y j
def Pg.partly (p:Pg) (c:Int):Bool:=p.cls == c && decide (p.count<bpt c)
theorem Pg.dS {p:Pg} {c:Int}:p.partly c=true↔p.cls=c/\p.count<bpt c:=by simp [Pg.partly]
def Pg.gap (p:Pg) (c:Int):Nat:=fst (fun k=>!p.used k) (bpt c)
def Pg.top (p:Pg) (c:Int):Nat:=fst p.used (bpt c)
theorem Pg.ok.gap {p:Pg} (h:p.ok) {c:Int} (d:IsC c) (hp:p.partly c=true):p.gap c<bpt c/\p.used (p.gap c)=false:=by
 obtain ⟨rfl,z⟩:=Pg.dS.1 hp;have y:p.cls≠-1:=by rcases d with h|h|h<;>omega
 rw [h.count y] at z;obtain ⟨j,e,hu⟩:=aAW.1 z;have:=aDB (f:=fun k=>!p.used k) e (by simp [hu]);exact ⟨this.2.1,by have:=this.2.2;simp only [Bool.not_eq_true'] at this;exact this⟩
theorem Pg.ok.top {p:Pg} (h:p.ok) (y:p.cls≠-1):p.top p.cls<bpt p.cls/\p.used (p.top p.cls)=true:=by
 obtain ⟨j,z,d⟩:=h.some1 y;have:=aDB (f:=p.used) z d;exact ⟨this.2.1,this.2.2⟩
def Pg.take (p:Pg) (c:Int) (k:Nat) (f:Nat->Int):Pg:=
 { cls:=c,used:=up p.used k true,cell:=fun j=>if k*bsz c<=j/\j<k*bsz c+bsz c then f (j - k*bsz c) else p.cell j }
def Pg.release (p:Pg) (k:Nat):Pg:=
 { p with used:=up p.used k false,cls:=if cnt (up p.used k false) 8=0 then -1 else p.cls }
theorem Pg.ok.take {p:Pg} (h:p.ok) {c:Int} (e:IsC c) (y:p.cls = -1\/p.cls=c) {k:Nat} (hk:k<bpt c) (f:Nat->Int):(p.take c k f).ok:=by
 have z:c≠-1:=by rcases e with h|h|h<;>omega
 refine ⟨.inr e,fun h2=>absurd h2 z,fun _ j hj=>?_,fun _=>⟨k,hk,bM _ _ _⟩⟩;show up p.used k true j=false;have d:bpt c<=j:=hj;rw [aU _ _ (by omega)];rcases y with y|y
 ·exact h.free y j
 exact h.high (by omega) j (by rw [y];exact d)
theorem Pg.ok.release {p:Pg} (h:p.ok) (d:p.cls≠-1) (k:Nat):(p.release k).ok:=by
 have h1:=(h.isC d).sz;unfold Pg.release
 by_cases y:cnt (up p.used k false) 8=0
 ·have hz:=qB.1 y;refine ⟨.inl (by simp [y]),fun _ j=>?_,fun z=>by simp [y] at z,fun z=>by simp [y] at z⟩;show up p.used k false j=false
  by_cases hj:j<8
  ·exact hz j hj
  by_cases e:j=k
  ·rw [e,bM]
  rw [aU _ _ e];exact h.high d j (by omega)
 refine ⟨by simp [y];exact h.cls,fun z=>by simp [y] at z;exact absurd z d,fun _ j hj=>?_,fun _=>?_⟩
 ·simp only [y,if_false] at hj;show up p.used k false j=false
  by_cases e:j=k
  ·rw [e,bM]
  rw [aU _ _ e];exact h.high d j hj
 simp only [y,if_false];apply Classical.byContradiction;intro hn;apply y;apply oV;intro j hj
 by_cases e:j=k
 ·rw [e,bM]
 rw [aU _ _ e]
 by_cases hb:j<bpt p.cls
 ·cases hu:p.used j with
  | false=>rfl
  | true=>exact absurd ⟨j,hb,by show up p.used k false j=true;rw [aU _ _ e];exact hu⟩ hn
 exact h.high d j (by omega)
def Pl.set (P:Pl) (i:Nat) (x:Pg):Pl:={ n:=P.n,pg:=up P.pg i x }
theorem Pl.ok.set {P:Pl} (h:P.ok) {i:Nat} {x:Pg} (hx:x.ok):(P.set i x).ok:=by
 intro j y
 by_cases e:j=i
 ·rw [e];show (up P.pg i x i).ok;rw [bM];exact hx
 show (up P.pg i x j).ok;rw [aU _ _ e];exact h j y
def Pl.alloc (P:Pl) (c:Int):Int×Int×Pl:=
 if c<0\/2<c then (0,1,P) else
 let i:=fst (fun i=>(P.pg i).partly c) P.n
 if i<P.n then
  let k:=(P.pg i).gap c
  (((16*i+k*bsz c:Nat):Int),0,P.set i ((P.pg i).take c k fun _=>0))
 else
  let i:=fst (fun i=>decide ((P.pg i).cls<0)) P.n
  if i<P.n then (((16*i:Nat):Int),0,P.set i ((P.pg i).take c 0 fun _=>0)) else (0,14,P)
def Pl.addr (P:Pl) (a:Int):Bool:=decide (0<=a) && decide (a<16*P.n)
def Pl.begin (P:Pl) (a:Int):Int×Int:=
 if P.addr a then
  let x:=P.pg (a.toNat / 16)
  if x.cls<0 then (0,3) else
  let k:=a.toNat % 16 / bsz x.cls
  if x.used k then (((a.toNat / 16*16+k*bsz x.cls:Nat):Int),0) else (0,3)
 else (0,1)
def Pl.cell (P:Pl) (a:Int):Int×Int:=
 if (P.begin a).2=0 then ((P.pg (a.toNat / 16)).cell (a.toNat % 16),0) else (0,(P.begin a).2)
def Pl.setCell (P:Pl) (a n:Int):Int×Pl:=
 if (P.begin a).2=0 then (0,P.set (a.toNat / 16) { P.pg (a.toNat / 16) with cell:=up (P.pg (a.toNat / 16)).cell (a.toNat % 16) n }) else ((P.begin a).2,P)
def Pl.free (P:Pl) (a:Int):Int×Pl:=
 if (P.begin a).2=0 then
  if (P.begin a).1=a then (0,P.set (a.toNat / 16) ((P.pg (a.toNat / 16)).release (a.toNat % 16 / bsz (P.pg (a.toNat / 16)).cls))) else (3,P)
 else ((P.begin a).2,P)
def Pl.frm (P:Pl) (c:Int):Nat->Option Nat
 | 0=>none
 | k+1=>match P.frm c k with
  | none=>if (P.pg k).partly c=true then some k else none
  | some f=>if (P.pg k).partly c=true/\(P.pg k).count<=(P.pg f).count then some k else some f
def Pl.too (P:Pl) (c:Int) (f:Option Nat):Nat->Option Nat
 | 0=>none
 | k+1=>match P.too c f k with
  | none=>if some k≠f/\(P.pg k).partly c=true then some k else none
  | some t=>if some k≠f/\(P.pg k).partly c=true/\(P.pg t).count<(P.pg k).count then some k else some t
def aOz:Option Nat->Int|none=>-1|some k=>k
def Pl.eF (P:Pl) (c:Int):Option (Nat×Nat):=
 match P.frm c P.n,P.too c (P.frm c P.n) P.n with
 | some f,some t=>some (f,t)
 | _,_=>none
def Pl.pair (P:Pl):Option (Nat×Nat):=(P.eF 0).or ((P.eF 1).or (P.eF 2))
def Pl.moved (P:Pl) (i j:Nat):Pl:=
 let a:=P.pg i;let b:=P.pg j
 (P.set j (b.take a.cls (b.gap b.cls) fun x=>a.cell (a.top a.cls*bsz a.cls+x))).set i (a.release (a.top a.cls))
def Pl.move (P:Pl):Int×Int×Int×Pl:=
 match P.pair with
 | none=>(0,0,3,P)
 | some (i,j)=>
  let a:=P.pg i;let b:=P.pg j
  (((16*i+a.top a.cls*bsz a.cls:Nat):Int),((16*j+b.gap b.cls*bsz a.cls:Nat):Int),0,P.moved i j)
def jE (f:Nat->Nat):Nat->Nat
 | 0=>0
 | k+1=>jE f k+f k
def Pl.aEf (P:Pl) (c:Int) (i:Nat):Nat:=if (P.pg i).cls=c then (P.pg i).count else 0
def Pl.aKE (P:Pl) (i:Nat):Nat:=if (P.pg i).cls<0 then 1 else 0
def Pl.aPU (P:Pl) (i:Nat):Nat:=if 0<=(P.pg i).cls/\(P.pg i).partly (P.pg i).cls=true then 1 else 0
def Pl.aQC (P:Pl) (i:Nat):Nat:=if 0<=(P.pg i).cls/\(P.pg i).partly (P.pg i).cls=false then 1 else 0
def Pl.aCi (P:Pl) (c:Int) (k:Nat):Nat:=jE (P.aEf c) k
def Pl.aSr (P:Pl) (k:Nat):Nat:=jE P.aKE k
def Pl.aRK (P:Pl) (k:Nat):Nat:=jE P.aPU k
def Pl.aSq (P:Pl) (k:Nat):Nat:=jE P.aQC k
def Pl.class (P:Pl) (i:Int):Int×Int:=if i<0\/(P.n:Int)<=i then (0,1) else ((P.pg i.toNat).cls,0)
def Pg.live (p:Pg) (j:Nat):Bool:=decide (p.cls≠-1) && decide (j % bsz p.cls=0) && p.used (j / bsz p.cls)
theorem oC {f g:Nat->Nat} {k:Nat} (h:∀ i,i<k->f i=g i):jE f k=jE g k:=by
 induction k with
 | zero=>rfl
 | succ k y=>unfold jE;rw [y (fun i z=>h i (by omega)),h k (by omega)]
theorem mW {f g:Nat->Nat} {i k:Nat} (hi:i<k) (h:∀ j,j<k->j≠i->g j=f j):jE g k+f i=jE f k+g i:=by
 induction k with
 | zero=>omega
 | succ k d=>
  unfold jE
  by_cases e:i=k
  ·subst e;rw [oC (f:=g) (g:=f) (fun j z=>h j (by omega) (by omega))];omega
  have:=d (by omega) (fun j z y=>h j (by omega) y);rw [h k (by omega) (by omega)];omega
theorem aOb {f:Nat->Nat} {k m:Nat} (h:∀ i,i<k->f i<=m):jE f k<=m*k:=by
 induction k with
 | zero=>exact Nat.zero_le _
 | succ k y=>have z:=y (fun i e=>h i (by omega));have d:=h k (by omega);unfold jE;rw [Nat.mul_add];omega
theorem mV {f:Nat->Nat} {k:Nat}:jE f k=0↔∀ i,i<k->f i=0:=by
 induction k with
 | zero=>simp [jE]
 | succ k y=>
  unfold jE;constructor
  ·intro h i z
   by_cases e:i=k
   ·rw [e];omega
   exact y.1 (by omega) i (by omega)
  intro h;rw [y.2 (fun i z=>h i (by omega)),h k (by omega)]
theorem wG {f g:Nat->Nat} {k:Nat}:jE (fun i=>f i+g i) k=jE f k+jE g k:=by
 induction k with
 | zero=>rfl
 | succ k y=>unfold jE;rw [y];omega
theorem Pl.aP (P:Pl) (i:Nat) (x:Pg):(P.set i x).pg i=x:=bM _ _ _
theorem Pl.aV (P:Pl) {i j:Nat} (x:Pg) (h:j≠i):(P.set i x).pg j=P.pg j:=aU _ _ h
theorem Pl.aPM (P:Pl) (i:Nat) (x:Pg):(P.set i x).n=P.n:=rfl
theorem uI {c:Int}:¬ (c<0\/2<c)↔IsC c:=by unfold IsC;omega
theorem Pl.kE {P:Pl} {c:Int} (h:c<0\/2<c):P.alloc c=(0,1,P):=by unfold Pl.alloc;rw [if_pos h]
theorem Pl.fQ {P:Pl} {c:Int} (h:IsC c) {i:Nat} (y:i<P.n) (z:(P.pg i).partly c=true) (hb:∀ j,j<i->(P.pg j).partly c=false) :
  P.alloc c=(((16*i+(P.pg i).gap c*bsz c:Nat):Int),0,P.set i ((P.pg i).take c ((P.pg i).gap c) fun _=>0)):=by
 unfold Pl.alloc;rw [if_neg (uI.2 h)];have e:fst (fun i=>(P.pg i).partly c) P.n=i:=kV y z hb;simp only [e,y,if_true]
theorem Pl.iI {P:Pl} {c:Int} (h:IsC c) (d:∀ j,j<P.n->(P.pg j).partly c=false) {i:Nat} (y:i<P.n) (hp:(P.pg i).cls<0) (hb:∀ j,j<i->¬ (P.pg j).cls<0) :
  P.alloc c=(((16*i:Nat):Int),0,P.set i ((P.pg i).take c 0 fun _=>0)):=by
 unfold Pl.alloc;rw [if_neg (uI.2 h)];have e:fst (fun i=>(P.pg i).partly c) P.n=P.n:=fP d;have z:fst (fun i=>decide ((P.pg i).cls<0)) P.n=i:=kV y (by simpa using hp) (fun j hj=>by simpa using hb j hj);simp only [e,z,y,Nat.lt_irrefl,if_true,if_false]
theorem Pl.fU {P:Pl} {c:Int} (h:IsC c) (d:∀ j,j<P.n->(P.pg j).partly c=false) (z:∀ j,j<P.n->¬ (P.pg j).cls<0):P.alloc c=(0,14,P):=by
 unfold Pl.alloc;rw [if_neg (uI.2 h)];have e:fst (fun i=>(P.pg i).partly c) P.n=P.n:=fP d;have y:fst (fun i=>decide ((P.pg i).cls<0)) P.n=P.n:=fP (fun j hj=>by simpa using z j hj);simp only [e,y,Nat.lt_irrefl,if_false]
theorem Pl.gW (P:Pl) (c:Int):(c<0\/2<c)\/IsC c/\((∃ i,i<P.n/\(P.pg i).partly c=true/\∀ j,j<i->(P.pg j).partly c=false)\/
  (∀ j,j<P.n->(P.pg j).partly c=false)/\((∃ i,i<P.n/\(P.pg i).cls<0/\∀ j,j<i->¬ (P.pg j).cls<0)\/∀ j,j<P.n->¬ (P.pg j).cls<0)):=by
 by_cases h:c<0\/2<c
 ·exact .inl h
 refine .inr ⟨uI.1 h,?_⟩;have z:=dQ (fun i=>(P.pg i).partly c) P.n
 by_cases hi:fst (fun i=>(P.pg i).partly c) P.n<P.n
 ·exact .inl ⟨_,hi,z.2 hi,z.1⟩
 have e:fst (fun i=>(P.pg i).partly c) P.n=P.n:=by have:=aDC (fun i=>(P.pg i).partly c) P.n;omega
 rw [e] at z;refine .inr ⟨z.1,?_⟩;have d:=dQ (fun i=>decide ((P.pg i).cls<0)) P.n
 by_cases y:fst (fun i=>decide ((P.pg i).cls<0)) P.n<P.n
 ·exact .inl ⟨_,y,by simpa using d.2 y,fun j hj=>by simpa using d.1 j hj⟩
 have e2:fst (fun i=>decide ((P.pg i).cls<0)) P.n=P.n:=by have:=aDC (fun i=>decide ((P.pg i).cls<0)) P.n;omega
 rw [e2] at d;exact .inr fun j hj=>by simpa using d.1 j hj
theorem Pg.ok.neg {p:Pg} (h:p.ok):p.cls<0↔p.cls = -1:=by have:=h.ge;omega
theorem Pl.ok.alloc {P:Pl} (h:P.ok) (c:Int):(P.alloc c).2.2.ok/\(P.alloc c).2.2.n=P.n:=by
 rcases P.gW c with y|⟨y,⟨i,z,d,hb⟩|⟨e,⟨i,z,d,hb⟩|hf⟩⟩
 ·rw [Pl.kE y];exact ⟨h,rfl⟩
 ·rw [Pl.fQ y z d hb];exact ⟨h.set ((h i z).take y (.inr (Pg.dS.1 d).1) ((h i z).gap y d).1 _),rfl⟩
 ·rw [Pl.iI y e z d hb];have:=y.sz;exact ⟨h.set ((h i z).take y (.inl ((h i z).neg.1 d)) (by omega) _),rfl⟩
 rw [Pl.fU y e hf];exact ⟨h,rfl⟩
theorem Pl.iJ {P:Pl} {a:Int}:P.addr a=true↔0<=a/\a<16*P.n:=by simp [Pl.addr]
theorem Pl.nV {P:Pl} {a:Int} (h:P.addr a=false):P.begin a=(0,1):=by unfold Pl.begin;rw [h];rfl
theorem Pl.jQ {P:Pl} {a:Int} (h:P.addr a=true) (y:(P.pg (a.toNat / 16)).cls<0):P.begin a=(0,3):=by unfold Pl.begin;rw [h];simp [y]
theorem Pl.kD {P:Pl} {a:Int} (h:P.addr a=true) (y:¬ (P.pg (a.toNat / 16)).cls<0) (z:(P.pg (a.toNat / 16)).used (a.toNat % 16 / bsz (P.pg (a.toNat / 16)).cls)=true) :
  P.begin a=(((a.toNat / 16*16+a.toNat % 16 / bsz (P.pg (a.toNat / 16)).cls*bsz (P.pg (a.toNat / 16)).cls:Nat):Int),0):=by unfold Pl.begin;rw [h];simp [y,z]
theorem Pl.sQ {P:Pl} {a:Int} (h:P.addr a=true) (y:¬ (P.pg (a.toNat / 16)).cls<0) (z:(P.pg (a.toNat / 16)).used (a.toNat % 16 / bsz (P.pg (a.toNat / 16)).cls)=false) :
  P.begin a=(0,3):=by unfold Pl.begin;rw [h];simp [y,z]
theorem Pl.mD {P:Pl} {a:Int} (h:(P.begin a).2=0):P.addr a=true/\¬ (P.pg (a.toNat / 16)).cls<0/\(P.pg (a.toNat / 16)).used (a.toNat % 16 / bsz (P.pg (a.toNat / 16)).cls)=true/\
  (P.begin a).1=((a.toNat / 16*16+a.toNat % 16 / bsz (P.pg (a.toNat / 16)).cls*bsz (P.pg (a.toNat / 16)).cls:Nat):Int)/\a.toNat / 16<P.n/\a.toNat % 16<16/\a=(a.toNat:Int):=by
 cases y:P.addr a with
 | false=>rw [Pl.nV y] at h;cases h
 | true=>
  have e:=Pl.iJ.1 y
  by_cases z:(P.pg (a.toNat / 16)).cls<0
  ·rw [Pl.jQ y z] at h;cases h
  cases d:(P.pg (a.toNat / 16)).used (a.toNat % 16 / bsz (P.pg (a.toNat / 16)).cls) with
  | false=>rw [Pl.sQ y z d] at h;cases h
  | true=>exact ⟨rfl,z,rfl,by rw [Pl.kD y z d],by omega,by omega,by omega⟩
theorem Pl.aKW {P:Pl} {a:Int} (h:(P.begin a).2≠0):(P.begin a).1=0/\((P.begin a).2=1\/(P.begin a).2=3):=by
 cases y:P.addr a with
 | false=>rw [Pl.nV y];exact ⟨rfl,.inl rfl⟩
 | true=>
  by_cases z:(P.pg (a.toNat / 16)).cls<0
  ·rw [Pl.jQ y z];exact ⟨rfl,.inr rfl⟩
  cases d:(P.pg (a.toNat / 16)).used (a.toNat % 16 / bsz (P.pg (a.toNat / 16)).cls) with
  | false=>rw [Pl.sQ y z d];exact ⟨rfl,.inr rfl⟩
  | true=>rw [Pl.kD y z d] at h;exact absurd rfl h
theorem Pg.ok.put {p:Pg} (h:p.ok) (f:Nat->Int):({ p with cell:=f }:Pg).ok:=⟨h.cls,h.free,h.high,h.some1⟩
theorem Pl.ok.setCell {P:Pl} (h:P.ok) (a n:Int):(P.setCell a n).2.ok/\(P.setCell a n).2.n=P.n:=by
 unfold Pl.setCell;split
 ·rename_i y;have:=Pl.mD y;exact ⟨h.set ((h _ this.2.2.2.2.1).put _),rfl⟩
 exact ⟨h,rfl⟩
theorem Pl.ok.free {P:Pl} (h:P.ok) (a:Int):(P.free a).2.ok/\(P.free a).2.n=P.n:=by
 unfold Pl.free;split
 ·rename_i y;have:=Pl.mD y;split
  ·exact ⟨h.set ((h _ this.2.2.2.2.1).release (by omega) _),rfl⟩
  exact ⟨h,rfl⟩
 exact ⟨h,rfl⟩
theorem Pl.aBO {P:Pl} {c:Int} {k f:Nat} (h:P.frm c k=some f):f<k/\(P.pg f).partly c=true/\∀ i,i<k->(P.pg i).partly c=true->(P.pg f).count<=(P.pg i).count:=by
 induction k generalizing f with
 | zero=>simp [Pl.frm] at h
 | succ k ih=>
  unfold Pl.frm at h
  cases hk:P.frm c k with
  | none=>
   rw [hk] at h
   by_cases d:(P.pg k).partly c=true
   ·simp [d] at h;subst h;refine ⟨by omega,d,fun i hi y=>?_⟩
    by_cases e:i=k
    ·rw [e];exact Nat.le_refl _
    exfalso;clear ih;have:∀ m,m<=k->P.frm c m=none->∀ i,i<m->(P.pg i).partly c=false:=by
     intro m
     induction m with
     | zero=>intro _ _ i hi;omega
     | succ m h0=>
      intro hm z i hi;unfold Pl.frm at z
      cases hq:P.frm c m with
      | none=>
       rw [hq] at z;simp at z
       by_cases e2:i=m
       ·rw [e2];exact z
       exact h0 (by omega) hq i (by omega)
      | some g=>rw [hq] at z;simp only at z;split at z<;>cases z
    have:=this k (Nat.le_refl _) hk i (by omega);rw [y] at this;cases this
   simp [d] at h
  | some g=>
   rw [hk] at h;have hg:=ih hk;simp only at h;split at h
   ·rename_i d;simp at h;subst h;refine ⟨by omega,d.1,fun i hi y=>?_⟩
    by_cases e:i=k
    ·rw [e];exact Nat.le_refl _
    have:=hg.2.2 i (by omega) y;omega
   rename_i d;simp at h;subst h;refine ⟨by omega,hg.2.1,fun i hi y=>?_⟩
   by_cases e:i=k
   ·subst e;rcases Nat.le_total (P.pg g).count (P.pg i).count with h1|h1
    ·exact h1
    exact absurd ⟨y,h1⟩ d
   exact hg.2.2 i (by omega) y
theorem Pl.wQ {P:Pl} {c:Int} {k:Nat} (h:P.frm c k=none):∀ i,i<k->(P.pg i).partly c=false:=by
 induction k with
 | zero=>intro i d;omega
 | succ k e=>
  intro i d;unfold Pl.frm at h
  cases y:P.frm c k with
  | none=>
   rw [y] at h;simp at h
   by_cases z:i=k
   ·rw [z];exact h
   exact e y i (by omega)
  | some g=>rw [y] at h;simp only at h;split at h<;>cases h
theorem Pl.nZ {P:Pl} {c:Int} {f:Option Nat} {k t:Nat} (h:P.too c f k=some t):t<k/\some t≠f/\(P.pg t).partly c=true:=by
 induction k generalizing t with
 | zero=>simp [Pl.too] at h
 | succ k d=>
  unfold Pl.too at h
  cases z:P.too c f k with
  | none=>
   rw [z] at h;simp only at h;split at h
   ·rename_i y;simp at h;subst h;exact ⟨by omega,y⟩
   cases h
  | some g=>
   rw [z] at h;simp only at h;split at h
   ·rename_i y;simp at h;subst h;exact ⟨by omega,y.1,y.2.1⟩
   simp at h;subst h;have:=d z;exact ⟨by omega,this.2⟩
structure Pl.Pair (P:Pl) (i j:Nat):Prop where
 hi:i<P.n
 hj:j<P.n
 ne:i≠j
 c:IsC (P.pg i).cls
 same:(P.pg j).cls=(P.pg i).cls
 pi:(P.pg i).partly (P.pg i).cls=true
 pj:(P.pg j).partly (P.pg i).cls=true
 le:(P.pg i).count<=(P.pg j).count
theorem Pl.oK {P:Pl} {c:Int} (hc:IsC c) {i j:Nat} (h:P.eF c=some (i,j)):P.Pair i j/\(P.pg i).cls=c:=by
 unfold Pl.eF at h
 cases hf:P.frm c P.n with
 | none=>rw [hf] at h;simp at h
 | some f=>
  rw [hf] at h
  cases ht:P.too c (some f) P.n with
  | none=>rw [ht] at h;simp at h
  | some t=>
   rw [ht] at h;simp at h;obtain ⟨rfl,rfl⟩:=h;have d:=Pl.aBO hf;have y:=Pl.nZ ht;have z:=(Pg.dS.1 d.2.1).1;have e2:=(Pg.dS.1 y.2.2).1;refine ⟨⟨d.1,y.1,fun e=>y.2.1 (by rw [e]),by rw [z];exact hc,by rw [z,e2],by rw [z];exact d.2.1,by rw [z];exact y.2.2,d.2.2 _ y.1 y.2.2⟩,z⟩
theorem Pl.jG {P:Pl} {i j:Nat} (h:P.pair=some (i,j)):P.Pair i j:=by
 unfold Pl.pair at h
 cases y:P.eF 0 with
 | some x=>rw [y] at h;simp at h;subst h;exact (Pl.oK (.inl rfl) y).1
 | none=>
  rw [y] at h;simp only [Option.none_or] at h
  cases z:P.eF 1 with
  | some x=>rw [z] at h;simp at h;subst h;exact (Pl.oK (.inr (.inl rfl)) z).1
  | none=>
   rw [z] at h;simp only [Option.none_or] at h;exact (Pl.oK (.inr (.inr rfl)) h).1
theorem Pl.aJt {P:Pl} (h:P.pair=none) {c:Int} (y:IsC c):P.eF c=none:=by
 unfold Pl.pair at h;simp only [Option.or_eq_none_iff] at h;rcases y with rfl|rfl|rfl
 ·exact h.1
 ·exact h.2.1
 exact h.2.2
theorem Pl.ok.moved {P:Pl} (h:P.ok) {i j:Nat} (y:P.Pair i j):(P.moved i j).ok/\(P.moved i j).n=P.n:=by
 unfold Pl.moved;have z:(P.pg i).cls≠-1:=by rcases y.c with e|e|e<;>omega
 refine ⟨Pl.ok.set (Pl.ok.set h ?_) ((h i y.hi).release z _),rfl⟩;have:=(h j y.hj).gap y.c y.pj;rw [y.same];exact (h j y.hj).take y.c (.inr y.same) this.1 _
theorem Pl.fC {P:Pl} (h:P.pair=none):P.move=(0,0,3,P):=by unfold Pl.move;rw [h]
theorem Pl.fB {P:Pl} {i j:Nat} (h:P.pair=some (i,j)):P.move=(((16*i+(P.pg i).top (P.pg i).cls*bsz (P.pg i).cls:Nat):Int),((16*j+(P.pg j).gap (P.pg j).cls*bsz (P.pg i).cls:Nat):Int),0,P.moved i j):=by unfold Pl.move;rw [h]
theorem Pl.ok.move {P:Pl} (h:P.ok):P.move.2.2.2.ok/\P.move.2.2.2.n=P.n:=by
 cases y:P.pair with
 | none=>rw [Pl.fC y];exact ⟨h,rfl⟩
 | some x=>obtain ⟨i,j⟩:=x;rw [Pl.fB y];exact h.moved (Pl.jG y)
theorem Pl.yJ {P:Pl} (h:P.ok) {i j:Nat} (y:P.Pair i j):((P.moved i j).pg i).count+1=(P.pg i).count/\((P.moved i j).pg j).count=(P.pg j).count+1/\∀ x,x≠i->x≠j->(P.moved i j).pg x=P.pg x:=by
 have z:(P.pg i).cls≠-1:=by rcases y.c with e|e|e<;>omega
 have ht:=(h i y.hi).top z;have hg:=(h j y.hj).gap y.c y.pj;have h0:=y.c.sz;unfold Pl.moved;refine ⟨?_,?_,fun x d h2=>?_⟩
 ·simp only [Pl.aP];exact sJ (by omega) ht.2
 ·simp only [Pl.aV _ _ y.ne.symm,Pl.aP,y.same];exact aBU (by omega) hg.2
 rw [Pl.aV _ _ d,Pl.aV _ _ h2]
end Go.Proofs.YthflghdaejbdkaaGreat
namespace Go.Proofs.YthflghdaejbdkaaGreat
open Go.RowKit
def IsO (v:Value):Option Nat->Prop|none=>v=.int .i64 (-1)|some f=>v=.int .i64 (f:Int)
theorem aFY {P:Pl} {c:Int} {k:Nat} {fr:Option Nat} (h:P.frm c k=fr) (y:(P.pg k).partly c=false):P.frm c (k+1)=fr:=by
 unfold Pl.frm;rw [h]
 cases fr<;>simp [y]
theorem aDE {P:Pl} {c:Int} {k:Nat} (h:P.frm c k=none) (y:(P.pg k).partly c=true):P.frm c (k+1)=some k:=by
 unfold Pl.frm;rw [h];simp [y]
theorem aGa {P:Pl} {c:Int} {k f:Nat} (h:P.frm c k=some f) (z:(P.pg k).partly c=true) (y:(P.pg k).count<=(P.pg f).count):P.frm c (k+1)=some k:=by
 unfold Pl.frm;rw [h];simp [z,y]
theorem aFZ {P:Pl} {c:Int} {k f:Nat} (h:P.frm c k=some f) (y:¬ (P.pg k).count<=(P.pg f).count):P.frm c (k+1)=some f:=by
 unfold Pl.frm;rw [h];simp [y]
theorem aFm {P:Pl} {c:Int} {f t:Option Nat} {k:Nat} (h:P.too c f k=t) (y:some k=f):P.too c f (k+1)=t:=by
 unfold Pl.too;rw [h]
 cases t<;>simp [y]
theorem wF {P:Pl} {c:Int} {f t:Option Nat} {k:Nat} (h:P.too c f k=t) (y:(P.pg k).partly c=false):P.too c f (k+1)=t:=by
 unfold Pl.too;rw [h]
 cases t<;>simp [y]
theorem aCk {P:Pl} {c:Int} {f:Option Nat} {k:Nat} (h:P.too c f k=none) (y:some k≠f) (z:(P.pg k).partly c=true):P.too c f (k+1)=some k:=by
 unfold Pl.too;rw [h];simp [z,y]
theorem aFo {P:Pl} {c:Int} {f:Option Nat} {k t:Nat} (h:P.too c f k=some t) (z:some k≠f) (d:(P.pg k).partly c=true) (y:(P.pg t).count<(P.pg k).count):P.too c f (k+1)=some k:=by
 unfold Pl.too;rw [h];simp [d,z,y]
theorem aFp {P:Pl} {c:Int} {f:Option Nat} {k t:Nat} (h:P.too c f k=some t) (y:¬ (P.pg t).count<(P.pg k).count):P.too c f (k+1)=some t:=by
 unfold Pl.too;rw [h];simp [y]
end Go.Proofs.YthflghdaejbdkaaGreat
