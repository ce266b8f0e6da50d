/- Lemmas of this claim. -/
import Derived.Deep.DeepFit
import Derived.Test.YthflghdaejbdkaaGreatXbLib
import Derived.Test.YthflghdaejbdkaaGreatRows
import Derived.IntWalk
namespace Go.Proofs.YthflghdaejbdkaaGreat
open _root_.Go.Proofs.Tryz (prog)
structure Pg where
 cls:Int
 used:Nat->Bool
 cell:Nat->Int
structure Pl where
 n:Nat
 pg:Nat->Pg
def bsz (c:Int):Nat:=2*2 ^ c.toNat
def bpt (c:Int):Nat:=16 / bsz c
def IsC (c:Int):Prop:=c=0\/c=1\/c=2
theorem IsC.facts {c:Int} (h:IsC c):(bsz c=2/\bpt c=8)\/(bsz c=4/\bpt c=4)\/(bsz c=8/\bpt c=2):=by
 rcases h with rfl|rfl|rfl
 ·exact .inl ⟨rfl,rfl⟩
 ·exact .inr (.inl ⟨rfl,rfl⟩)
 exact .inr (.inr ⟨rfl,rfl⟩)
theorem IsC.sz {c:Int} (h:IsC c):2<=bsz c/\bsz c<=8/\2<=bpt c/\bpt c<=8:=by
 rcases h.facts with ⟨h1,h2⟩|⟨h1,h2⟩|⟨h1,h2⟩<;>omega
theorem IsC.blk {c:Int} (h:IsC c) {k:Nat} (y:k<bpt c):k*bsz c+bsz c<=16/\(k+1)*bsz c=k*bsz c+bsz c:=by
 rcases h.facts with ⟨h1,h2⟩|⟨h1,h2⟩|⟨h1,h2⟩<;>(rw [h1];rw [h2] at y;omega)
theorem IsC.div {c:Int} (h:IsC c) {j:Nat} (y:j<16):j / bsz c<bpt c/\j / bsz c*bsz c<=j/\j<j / bsz c*bsz c+bsz c/\j % bsz c=j - j / bsz c*bsz c:=by
 rcases h.facts with ⟨h1,h2⟩|⟨h1,h2⟩|⟨h1,h2⟩<;>(rw [h1,h2];omega)
theorem IsC.aOG {c:Int} (h:IsC c) {k j:Nat} (y:k*bsz c<=j) (z:j<k*bsz c+bsz c):j / bsz c=k:=by
 rcases h.facts with ⟨h3,_⟩|⟨h3,_⟩|⟨h3,_⟩<;>(rw [h3] at y z ⊢;omega)
theorem IsC.mul_div {c:Int} (h:IsC c) (k:Nat):k*bsz c / bsz c=k/\k*bsz c % bsz c=0:=by
 rcases h.facts with ⟨h3,h4⟩|⟨h3,h4⟩|⟨h3,h4⟩<;>(rw [h3];omega)
theorem IsC.blocks {c:Int} (h:IsC c) {k l:Nat} (y:k*bsz c=l*bsz c):k=l:=by
 rcases h.facts with ⟨h3,h4⟩|⟨h3,h4⟩|⟨h3,h4⟩<;>(rw [h3] at y;omega)
def cnt (u:Nat->Bool):Nat->Nat
 | 0=>0
 | k+1=>cnt u k+if u k then 1 else 0
theorem qY (u:Nat->Bool) (k:Nat):cnt u k<=k:=by
 induction k with
 | zero=>exact Nat.le_refl _
 | succ k y=>unfold cnt;split<;>omega
theorem gG {u v:Nat->Bool} {k:Nat} (h:∀ j,j<k->u j=v j):cnt u k=cnt v k:=by
 induction k with
 | zero=>rfl
 | succ k y=>unfold cnt;rw [y (fun j z=>h j (by omega)),h k (by omega)]
theorem kW {u:Nat->Bool} {k:Nat} (h:∀ j,j<k->u j=false):cnt u k=0:=by
 induction k with
 | zero=>rfl
 | succ k y=>unfold cnt;rw [y (fun j z=>h j (by omega)),h k (by omega)];rfl
theorem aKV {u:Nat->Bool} {k j:Nat} (z:j<k) (h:u j=true):0<cnt u k:=by
 induction k with
 | zero=>omega
 | succ k y=>
  unfold cnt
  by_cases e:j=k
  ·subst e;rw [h];simp
  have:=y (by omega);omega
theorem aGp {u:Nat->Bool} {k:Nat}:cnt u k=k↔∀ j,j<k->u j=true:=by
 induction k with
 | zero=>simp [cnt]
 | succ k z=>
  have:=qY u k;unfold cnt;constructor
  ·intro h j d
   by_cases y:u k=true
   ·by_cases e:j=k
    ·rw [e];exact y
    exact z.1 (by rw [y] at h;simpa using h) j (by omega)
   simp at y;rw [y] at h;simp at h;omega
  intro h;rw [h k (by omega),z.2 (fun j d=>h j (by omega))];rfl
theorem aBk {u:Nat->Bool} {k:Nat}:cnt u k<k↔∃ j,j<k/\u j=false:=by
 constructor
 ·intro h;apply Classical.byContradiction;intro d;have:cnt u k=k:=aGp.2 fun j y=>by
   cases z:u j with
   | true=>rfl
   | false=>exact absurd ⟨j,y,z⟩ d
  omega
 rintro ⟨j,y,z⟩;have e:=qY u k;rcases Nat.lt_or_ge (cnt u k) k with h|h
 ·exact h
 have:=aGp.1 (by omega:cnt u k=k) j y;rw [z] at this;cases this
theorem qL {u:Nat->Bool} {k:Nat}:cnt u k=0↔∀ j,j<k->u j=false:=by
 constructor
 ·intro h j y
  cases z:u j with
  | false=>rfl
  | true=>have:=aKV y z;omega
 exact kW
theorem aGo {u:Nat->Bool} {k m:Nat} (d:k<=m) (h:∀ j,k<=j->j<m->u j=false):cnt u m=cnt u k:=by
 induction m with
 | zero=>rw [show k=0 by omega]
 | succ m z=>
  by_cases e:k=m+1
  ·rw [e]
  rw [show cnt u (m+1)=cnt u m+if u m then 1 else 0 from rfl,z (by omega) (fun j y h2=>h j y (by omega)),h m (by omega) (by omega)];rfl
def up {α:Type} (f:Nat->α) (k:Nat) (x:α):Nat->α:=fun j=>if j=k then x else f j
theorem bP {α:Type} (f:Nat->α) (k:Nat) (x:α):up f k x k=x:=by simp [up]
theorem aV {α:Type} (f:Nat->α) {k j:Nat} (x:α) (h:j≠k):up f k x j=f j:=by simp [up,h]
theorem aAg {u:Nat->Bool} {k m:Nat} (d:k<m) (h:u k=false):cnt (up u k true) m=cnt u m+1:=by
 induction m with
 | zero=>omega
 | succ m y=>
  unfold cnt
  by_cases e:k=m
  ·subst e;rw [bP,h,gG (v:=u) (fun j z=>aV _ _ (by omega))];simp
  rw [y (by omega),aV _ _ (by omega)];omega
theorem aAh {u:Nat->Bool} {k m:Nat} (d:k<m) (h:u k=true):cnt (up u k false) m+1=cnt u m:=by
 induction m with
 | zero=>omega
 | succ m y=>
  unfold cnt
  by_cases e:k=m
  ·subst e;rw [bP,h,gG (v:=u) (fun j z=>aV _ _ (by omega))];simp
  rw [aV _ _ (by omega)];have:=y (by omega);omega
def fst (f:Nat->Bool):Nat->Nat
 | 0=>0
 | m+1=>if fst f m<m then fst f m else if f m then m else m+1
theorem aDP (f:Nat->Bool) (m:Nat):fst f m<=m:=by
 induction m with
 | zero=>exact Nat.le_refl _
 | succ m y=>unfold fst;split;omega;split<;>omega
theorem dU (f:Nat->Bool) (m:Nat):(∀ j,j<fst f m->f j=false)/\(fst f m<m->f (fst f m)=true):=by
 induction m with
 | zero=>exact ⟨fun j d=>by simp [fst] at d,fun h=>by simp [fst] at h⟩
 | succ m y=>
  unfold fst;have h0:=aDP f m;split
  ·rename_i h;exact ⟨y.1,fun _=>y.2 h⟩
  have e:fst f m=m:=by omega
  split
  ·rename_i z;exact ⟨by rw [e] at y;exact y.1,fun _=>z⟩
  rename_i z;refine ⟨fun j d=>?_,fun h=>by omega⟩
  by_cases e2:j=m
  ·rw [e2];simpa using z
  exact y.1 j (by omega)
theorem lD {f:Nat->Bool} {m k:Nat} (d:k<m) (h:f k=true) (hb:∀ j,j<k->f j=false):fst f m=k:=by
 have z:=dU f m;rcases Nat.lt_trichotomy (fst f m) k with y|y|y
 ·have:=z.2 (by omega);rw [hb _ y] at this;cases this
 ·exact y
 have:=z.1 k y;rw [h] at this;cases this
theorem fP {f:Nat->Bool} {m:Nat} (hb:∀ j,j<m->f j=false):fst f m=m:=by
 have y:=dU f m;have z:=aDP f m;rcases Nat.lt_or_ge (fst f m) m with h|h
 ·have:=y.2 h;rw [hb _ h] at this;cases this
 omega
theorem aDO {f:Nat->Bool} {m k:Nat} (d:k<m) (h:f k=true):fst f m<=k/\fst f m<m/\f (fst f m)=true:=by
 have z:=dU f m;have:fst f m<=k:=by
  rcases Nat.lt_or_ge k (fst f m) with y|y
  ·have:=z.1 k y;rw [h] at this;cases this
  exact y
 exact ⟨this,by omega,z.2 (by omega)⟩
theorem sS {f g:Nat->Bool} {m:Nat} (h:∀ j,j<m->f j=g j):fst f m=fst g m:=by
 induction m with
 | zero=>rfl
 | succ m y=>unfold fst;rw [y (fun j z=>h j (by omega)),h m (by omega)]
def idx (f:Nat->Bool) (n:Nat):Int:=if fst f n<n then (fst f n:Nat) else -1
theorem kY {f:Nat->Bool} {n:Nat} (h:fst f n<n):idx f n=(fst f n:Nat):=by unfold idx;rw [if_pos h]
theorem sJ {f:Nat->Bool} {n:Nat} (h:¬ fst f n<n):idx f n = -1:=by unfold idx;rw [if_neg h]
structure Pg.ok (p:Pg):Prop where
 cls:p.cls = -1\/IsC p.cls
 free:p.cls = -1->∀ k,p.used k=false
 high:p.cls≠-1->∀ k,bpt p.cls<=k->p.used k=false
 some1:p.cls≠-1->∃ k,k<bpt p.cls/\p.used k=true
def Pl.ok (P:Pl):Prop:=∀ i,i<P.n->(P.pg i).ok
def Pg.zero:Pg:={ cls:=-1,used:=fun _=>false,cell:=fun _=>0 }
def Pl.zero (n:Nat):Pl:={ n:=n,pg:=fun _=>Pg.zero }
theorem Pg.aBv:Pg.zero.ok:=⟨.inl rfl,fun _ _=>rfl,fun h=>absurd rfl h,fun h=>absurd rfl h⟩
theorem Pl.aBv (n:Nat):(Pl.zero n).ok:=fun _ _=>Pg.aBv
def Pg.count (p:Pg):Nat:=cnt p.used 8
theorem Pg.count_le (p:Pg):p.count<=8:=qY _ _
theorem Pg.ok.isC {p:Pg} (h:p.ok) (z:p.cls≠-1):IsC p.cls:=by rcases h.cls with y|y;exact absurd y z;exact y
theorem Pg.ok.ge {p:Pg} (h:p.ok) : -1<=p.cls/\p.cls<=2:=by rcases h.cls with h1|h1|h1|h1<;>omega
theorem Pg.ok.count {p:Pg} (h:p.ok) (y:p.cls≠-1):p.count=cnt p.used (bpt p.cls):=
 aGo (h.isC y).sz.2.2.2 fun j z _=>h.high y j z
theorem Pg.ok.aKU {p:Pg} (h:p.ok) (y:p.cls≠-1):0<p.count:=by
 obtain ⟨k,d,z⟩:=h.some1 y;have:=(h.isC y).sz;exact aKV (by omega:k<8) z
theorem Pg.ok.aId {p:Pg} (h:p.ok) (y:p.cls = -1):p.count=0:=kW fun j _=>h.free y j
def Pg.partly (p:Pg) (c:Int):Bool:=p.cls == c && decide (p.count<bpt c)
theorem Pg.bF {p:Pg} {c:Int}:p.partly c=true↔p.cls=c/\p.count<bpt c:=by simp [Pg.partly]
def Pg.gap (p:Pg) (c:Int):Nat:=fst (fun k=>!p.used k) (bpt c)
def Pg.top (p:Pg) (c:Int):Nat:=fst p.used (bpt c)
theorem Pg.ok.gap {p:Pg} (h:p.ok) {c:Int} (d:IsC c) (hp:p.partly c=true):p.gap c<bpt c/\p.used (p.gap c)=false:=by
 obtain ⟨rfl,z⟩:=Pg.bF.1 hp;have y:p.cls≠-1:=by rcases d with h|h|h<;>omega
 rw [h.count y] at z;obtain ⟨j,e,hu⟩:=aBk.1 z;have:=aDO (f:=fun k=>!p.used k) e (by simp [hu]);exact ⟨this.2.1,by have:=this.2.2;simp only [Bool.not_eq_true'] at this;exact this⟩
theorem Pg.ok.top {p:Pg} (h:p.ok) (y:p.cls≠-1):p.top p.cls<bpt p.cls/\p.used (p.top p.cls)=true:=by
 obtain ⟨j,z,d⟩:=h.some1 y;have:=aDO (f:=p.used) z d;exact ⟨this.2.1,this.2.2⟩
def Pg.take (p:Pg) (c:Int) (k:Nat) (f:Nat->Int):Pg:=
 { cls:=c,used:=up p.used k true,cell:=fun j=>if k*bsz c<=j/\j<k*bsz c+bsz c then f (j - k*bsz c) else p.cell j }
def Pg.release (p:Pg) (k:Nat):Pg:=
 { p with used:=up p.used k false,cls:=if cnt (up p.used k false) 8=0 then -1 else p.cls }
theorem Pg.ok.take {p:Pg} (h:p.ok) {c:Int} (e:IsC c) (y:p.cls = -1\/p.cls=c) {k:Nat} (hk:k<bpt c) (f:Nat->Int):(p.take c k f).ok:=by
 have z:c≠-1:=by rcases e with h|h|h<;>omega
 refine ⟨.inr e,fun h2=>absurd h2 z,fun _ j hj=>?_,fun _=>⟨k,hk,bP _ _ _⟩⟩;show up p.used k true j=false;have d:bpt c<=j:=hj;rw [aV _ _ (by omega)];rcases y with y|y
 ·exact h.free y j
 exact h.high (by omega) j (by rw [y];exact d)
theorem Pg.ok.release {p:Pg} (h:p.ok) (d:p.cls≠-1) (k:Nat):(p.release k).ok:=by
 have h1:=(h.isC d).sz;unfold Pg.release
 by_cases y:cnt (up p.used k false) 8=0
 ·have hz:=qL.1 y;refine ⟨.inl (by simp [y]),fun _ j=>?_,fun z=>by simp [y] at z,fun z=>by simp [y] at z⟩;show up p.used k false j=false
  by_cases hj:j<8
  ·exact hz j hj
  by_cases e:j=k
  ·rw [e,bP]
  rw [aV _ _ e];exact h.high d j (by omega)
 refine ⟨by simp [y];exact h.cls,fun z=>by simp [y] at z;exact absurd z d,fun _ j hj=>?_,fun _=>?_⟩
 ·simp only [y,if_false] at hj;show up p.used k false j=false
  by_cases e:j=k
  ·rw [e,bP]
  rw [aV _ _ e];exact h.high d j hj
 simp only [y,if_false];apply Classical.byContradiction;intro hn;apply y;apply kW;intro j hj
 by_cases e:j=k
 ·rw [e,bP]
 rw [aV _ _ e]
 by_cases hb:j<bpt p.cls
 ·cases hu:p.used j with
  | false=>rfl
  | true=>exact absurd ⟨j,hb,by show up p.used k false j=true;rw [aV _ _ e];exact hu⟩ hn
 exact h.high d j (by omega)
def Pl.set (P:Pl) (i:Nat) (x:Pg):Pl:={ n:=P.n,pg:=up P.pg i x }
theorem Pl.ok.set {P:Pl} (h:P.ok) {i:Nat} {x:Pg} (hx:x.ok):(P.set i x).ok:=by
 intro j y
 by_cases e:j=i
 ·rw [e];show (up P.pg i x i).ok;rw [bP];exact hx
 show (up P.pg i x j).ok;rw [aV _ _ e];exact h j y
def Pl.alloc (P:Pl) (c:Int):Int×Int×Pl:=
 if c<0\/2<c then (0,1,P) else
 let i:=fst (fun i=>(P.pg i).partly c) P.n
 if i<P.n then
  let k:=(P.pg i).gap c
  (((16*i+k*bsz c:Nat):Int),0,P.set i ((P.pg i).take c k fun _=>0))
 else
  let i:=fst (fun i=>decide ((P.pg i).cls<0)) P.n
  if i<P.n then (((16*i:Nat):Int),0,P.set i ((P.pg i).take c 0 fun _=>0)) else (0,14,P)
def Pl.addr (P:Pl) (a:Int):Bool:=decide (0<=a) && decide (a<16*P.n)
def Pl.begin (P:Pl) (a:Int):Int×Int:=
 if P.addr a then
  let x:=P.pg (a.toNat / 16)
  if x.cls<0 then (0,3) else
  let k:=a.toNat % 16 / bsz x.cls
  if x.used k then (((a.toNat / 16*16+k*bsz x.cls:Nat):Int),0) else (0,3)
 else (0,1)
def Pl.cell (P:Pl) (a:Int):Int×Int:=
 if (P.begin a).2=0 then ((P.pg (a.toNat / 16)).cell (a.toNat % 16),0) else (0,(P.begin a).2)
def Pl.setCell (P:Pl) (a n:Int):Int×Pl:=
 if (P.begin a).2=0 then (0,P.set (a.toNat / 16) { P.pg (a.toNat / 16) with cell:=up (P.pg (a.toNat / 16)).cell (a.toNat % 16) n }) else ((P.begin a).2,P)
def Pl.free (P:Pl) (a:Int):Int×Pl:=
 if (P.begin a).2=0 then
  if (P.begin a).1=a then (0,P.set (a.toNat / 16) ((P.pg (a.toNat / 16)).release (a.toNat % 16 / bsz (P.pg (a.toNat / 16)).cls))) else (3,P)
 else ((P.begin a).2,P)
def Pl.frm (P:Pl) (c:Int):Nat->Option Nat
 | 0=>none
 | k+1=>match P.frm c k with
  | none=>if (P.pg k).partly c=true then some k else none
  | some f=>if (P.pg k).partly c=true/\(P.pg k).count<=(P.pg f).count then some k else some f
def Pl.too (P:Pl) (c:Int) (f:Option Nat):Nat->Option Nat
 | 0=>none
 | k+1=>match P.too c f k with
  | none=>if some k≠f/\(P.pg k).partly c=true then some k else none
  | some t=>if some k≠f/\(P.pg k).partly c=true/\(P.pg t).count<(P.pg k).count then some k else some t
def aOI:Option Nat->Int|none=>-1|some k=>k
def Pl.dY (P:Pl) (c:Int):Option (Nat×Nat):=
 match P.frm c P.n,P.too c (P.frm c P.n) P.n with
 | some f,some t=>some (f,t)
 | _,_=>none
def Pl.pair (P:Pl):Option (Nat×Nat):=(P.dY 0).or ((P.dY 1).or (P.dY 2))
def Pl.moved (P:Pl) (i j:Nat):Pl:=
 let a:=P.pg i;let b:=P.pg j
 (P.set j (b.take a.cls (b.gap b.cls) fun x=>a.cell (a.top a.cls*bsz a.cls+x))).set i (a.release (a.top a.cls))
def Pl.move (P:Pl):Int×Int×Int×Pl:=
 match P.pair with
 | none=>(0,0,3,P)
 | some (i,j)=>
  let a:=P.pg i;let b:=P.pg j
  (((16*i+a.top a.cls*bsz a.cls:Nat):Int),((16*j+b.gap b.cls*bsz a.cls:Nat):Int),0,P.moved i j)
def iQ (f:Nat->Nat):Nat->Nat
 | 0=>0
 | k+1=>iQ f k+f k
def Pl.aEo (P:Pl) (c:Int) (i:Nat):Nat:=if (P.pg i).cls=c then (P.pg i).count else 0
def Pl.aKK (P:Pl) (i:Nat):Nat:=if (P.pg i).cls<0 then 1 else 0
def Pl.aQf (P:Pl) (i:Nat):Nat:=if 0<=(P.pg i).cls/\(P.pg i).partly (P.pg i).cls=true then 1 else 0
def Pl.aQQ (P:Pl) (i:Nat):Nat:=if 0<=(P.pg i).cls/\(P.pg i).partly (P.pg i).cls=false then 1 else 0
def Pl.aCx (P:Pl) (c:Int) (k:Nat):Nat:=iQ (P.aEo c) k
def Pl.aSG (P:Pl) (k:Nat):Nat:=iQ P.aKK k
def Pl.aRX (P:Pl) (k:Nat):Nat:=iQ P.aQf k
def Pl.aSF (P:Pl) (k:Nat):Nat:=iQ P.aQQ k
def Pl.class (P:Pl) (i:Int):Int×Int:=if i<0\/(P.n:Int)<=i then (0,1) else ((P.pg i.toNat).cls,0)
def Pg.live (p:Pg) (j:Nat):Bool:=decide (p.cls≠-1) && decide (j % bsz p.cls=0) && p.used (j / bsz p.cls)
theorem lF {f g:Nat->Nat} {k:Nat} (h:∀ i,i<k->f i=g i):iQ f k=iQ g k:=by
 induction k with
 | zero=>rfl
 | succ k y=>unfold iQ;rw [y (fun i z=>h i (by omega)),h k (by omega)]
theorem qB {f g:Nat->Nat} {i k:Nat} (hi:i<k) (h:∀ j,j<k->j≠i->g j=f j):iQ g k+f i=iQ f k+g i:=by
 induction k with
 | zero=>omega
 | succ k d=>
  unfold iQ
  by_cases e:i=k
  ·subst e;rw [lF (f:=g) (g:=f) (fun j z=>h j (by omega) (by omega))];omega
  have:=d (by omega) (fun j z y=>h j (by omega) y);rw [h k (by omega) (by omega)];omega
theorem aIQ {f:Nat->Nat} {k m:Nat} (h:∀ i,i<k->f i<=m):iQ f k<=m*k:=by
 induction k with
 | zero=>exact Nat.zero_le _
 | succ k y=>have z:=y (fun i e=>h i (by omega));have d:=h k (by omega);unfold iQ;rw [Nat.mul_add];omega
theorem nJ {f:Nat->Nat} {k:Nat}:iQ f k=0↔∀ i,i<k->f i=0:=by
 induction k with
 | zero=>simp [iQ]
 | succ k y=>
  unfold iQ;constructor
  ·intro h i z
   by_cases e:i=k
   ·rw [e];omega
   exact y.1 (by omega) i (by omega)
  intro h;rw [y.2 (fun i z=>h i (by omega)),h k (by omega)]
theorem wM {f g:Nat->Nat} {k:Nat}:iQ (fun i=>f i+g i) k=iQ f k+iQ g k:=by
 induction k with
 | zero=>rfl
 | succ k y=>unfold iQ;rw [y];omega
theorem Pl.aP (P:Pl) (i:Nat) (x:Pg):(P.set i x).pg i=x:=bP _ _ _
theorem Pl.aQ (P:Pl) {i j:Nat} (x:Pg) (h:j≠i):(P.set i x).pg j=P.pg j:=aV _ _ h
theorem Pl.aPX (P:Pl) (i:Nat) (x:Pg):(P.set i x).n=P.n:=rfl
theorem uQ {c:Int}:¬ (c<0\/2<c)↔IsC c:=by unfold IsC;omega
theorem Pl.kL {P:Pl} {c:Int} (h:c<0\/2<c):P.alloc c=(0,1,P):=by unfold Pl.alloc;rw [if_pos h]
theorem Pl.fQ {P:Pl} {c:Int} (h:IsC c) {i:Nat} (y:i<P.n) (z:(P.pg i).partly c=true) (hb:∀ j,j<i->(P.pg j).partly c=false) :
  P.alloc c=(((16*i+(P.pg i).gap c*bsz c:Nat):Int),0,P.set i ((P.pg i).take c ((P.pg i).gap c) fun _=>0)):=by
 unfold Pl.alloc;rw [if_neg (uQ.2 h)];have e:fst (fun i=>(P.pg i).partly c) P.n=i:=lD y z hb;simp only [e,y,if_true]
theorem Pl.iM {P:Pl} {c:Int} (h:IsC c) (d:∀ j,j<P.n->(P.pg j).partly c=false) {i:Nat} (y:i<P.n) (hp:(P.pg i).cls<0) (hb:∀ j,j<i->¬ (P.pg j).cls<0) :
  P.alloc c=(((16*i:Nat):Int),0,P.set i ((P.pg i).take c 0 fun _=>0)):=by
 unfold Pl.alloc;rw [if_neg (uQ.2 h)];have e:fst (fun i=>(P.pg i).partly c) P.n=P.n:=fP d;have z:fst (fun i=>decide ((P.pg i).cls<0)) P.n=i:=lD y (by simpa using hp) (fun j hj=>by simpa using hb j hj);simp only [e,z,y,Nat.lt_irrefl,if_true,if_false]
theorem Pl.fU {P:Pl} {c:Int} (h:IsC c) (d:∀ j,j<P.n->(P.pg j).partly c=false) (z:∀ j,j<P.n->¬ (P.pg j).cls<0):P.alloc c=(0,14,P):=by
 unfold Pl.alloc;rw [if_neg (uQ.2 h)];have e:fst (fun i=>(P.pg i).partly c) P.n=P.n:=fP d;have y:fst (fun i=>decide ((P.pg i).cls<0)) P.n=P.n:=fP (fun j hj=>by simpa using z j hj);simp only [e,y,Nat.lt_irrefl,if_false]
theorem Pl.gX (P:Pl) (c:Int):(c<0\/2<c)\/IsC c/\((∃ i,i<P.n/\(P.pg i).partly c=true/\∀ j,j<i->(P.pg j).partly c=false)\/
  (∀ j,j<P.n->(P.pg j).partly c=false)/\((∃ i,i<P.n/\(P.pg i).cls<0/\∀ j,j<i->¬ (P.pg j).cls<0)\/∀ j,j<P.n->¬ (P.pg j).cls<0)):=by
 by_cases h:c<0\/2<c
 ·exact .inl h
 refine .inr ⟨uQ.1 h,?_⟩;have z:=dU (fun i=>(P.pg i).partly c) P.n
 by_cases hi:fst (fun i=>(P.pg i).partly c) P.n<P.n
 ·exact .inl ⟨_,hi,z.2 hi,z.1⟩
 have e:fst (fun i=>(P.pg i).partly c) P.n=P.n:=by have:=aDP (fun i=>(P.pg i).partly c) P.n;omega
 rw [e] at z;refine .inr ⟨z.1,?_⟩;have d:=dU (fun i=>decide ((P.pg i).cls<0)) P.n
 by_cases y:fst (fun i=>decide ((P.pg i).cls<0)) P.n<P.n
 ·exact .inl ⟨_,y,by simpa using d.2 y,fun j hj=>by simpa using d.1 j hj⟩
 have e2:fst (fun i=>decide ((P.pg i).cls<0)) P.n=P.n:=by have:=aDP (fun i=>decide ((P.pg i).cls<0)) P.n;omega
 rw [e2] at d;exact .inr fun j hj=>by simpa using d.1 j hj
theorem Pg.ok.neg {p:Pg} (h:p.ok):p.cls<0↔p.cls = -1:=by have:=h.ge;omega
theorem Pl.ok.alloc {P:Pl} (h:P.ok) (c:Int):(P.alloc c).2.2.ok/\(P.alloc c).2.2.n=P.n:=by
 rcases P.gX c with y|⟨y,⟨i,z,d,hb⟩|⟨e,⟨i,z,d,hb⟩|hf⟩⟩
 ·rw [Pl.kL y];exact ⟨h,rfl⟩
 ·rw [Pl.fQ y z d hb];exact ⟨h.set ((h i z).take y (.inr (Pg.bF.1 d).1) ((h i z).gap y d).1 _),rfl⟩
 ·rw [Pl.iM y e z d hb];have:=y.sz;exact ⟨h.set ((h i z).take y (.inl ((h i z).neg.1 d)) (by omega) _),rfl⟩
 rw [Pl.fU y e hf];exact ⟨h,rfl⟩
theorem Pl.iO {P:Pl} {a:Int}:P.addr a=true↔0<=a/\a<16*P.n:=by simp [Pl.addr]
theorem Pl.oK {P:Pl} {a:Int} (h:P.addr a=false):P.begin a=(0,1):=by unfold Pl.begin;rw [h];rfl
theorem Pl.jU {P:Pl} {a:Int} (h:P.addr a=true) (y:(P.pg (a.toNat / 16)).cls<0):P.begin a=(0,3):=by unfold Pl.begin;rw [h];simp [y]
theorem Pl.kK {P:Pl} {a:Int} (h:P.addr a=true) (y:¬ (P.pg (a.toNat / 16)).cls<0) (z:(P.pg (a.toNat / 16)).used (a.toNat % 16 / bsz (P.pg (a.toNat / 16)).cls)=true) :
  P.begin a=(((a.toNat / 16*16+a.toNat % 16 / bsz (P.pg (a.toNat / 16)).cls*bsz (P.pg (a.toNat / 16)).cls:Nat):Int),0):=by unfold Pl.begin;rw [h];simp [y,z]
theorem Pl.tH {P:Pl} {a:Int} (h:P.addr a=true) (y:¬ (P.pg (a.toNat / 16)).cls<0) (z:(P.pg (a.toNat / 16)).used (a.toNat % 16 / bsz (P.pg (a.toNat / 16)).cls)=false) :
  P.begin a=(0,3):=by unfold Pl.begin;rw [h];simp [y,z]
theorem Pl.mQ {P:Pl} {a:Int} (h:(P.begin a).2=0):P.addr a=true/\¬ (P.pg (a.toNat / 16)).cls<0/\(P.pg (a.toNat / 16)).used (a.toNat % 16 / bsz (P.pg (a.toNat / 16)).cls)=true/\
  (P.begin a).1=((a.toNat / 16*16+a.toNat % 16 / bsz (P.pg (a.toNat / 16)).cls*bsz (P.pg (a.toNat / 16)).cls:Nat):Int)/\a.toNat / 16<P.n/\a.toNat % 16<16/\a=(a.toNat:Int):=by
 cases y:P.addr a with
 | false=>rw [Pl.oK y] at h;cases h
 | true=>
  have e:=Pl.iO.1 y
  by_cases z:(P.pg (a.toNat / 16)).cls<0
  ·rw [Pl.jU y z] at h;cases h
  cases d:(P.pg (a.toNat / 16)).used (a.toNat % 16 / bsz (P.pg (a.toNat / 16)).cls) with
  | false=>rw [Pl.tH y z d] at h;cases h
  | true=>exact ⟨rfl,z,rfl,by rw [Pl.kK y z d],by omega,by omega,by omega⟩
theorem Pl.aLe {P:Pl} {a:Int} (h:(P.begin a).2≠0):(P.begin a).1=0/\((P.begin a).2=1\/(P.begin a).2=3):=by
 cases y:P.addr a with
 | false=>rw [Pl.oK y];exact ⟨rfl,.inl rfl⟩
 | true=>
  by_cases z:(P.pg (a.toNat / 16)).cls<0
  ·rw [Pl.jU y z];exact ⟨rfl,.inr rfl⟩
  cases d:(P.pg (a.toNat / 16)).used (a.toNat % 16 / bsz (P.pg (a.toNat / 16)).cls) with
  | false=>rw [Pl.tH y z d];exact ⟨rfl,.inr rfl⟩
  | true=>rw [Pl.kK y z d] at h;exact absurd rfl h
theorem Pg.ok.put {p:Pg} (h:p.ok) (f:Nat->Int):({ p with cell:=f }:Pg).ok:=⟨h.cls,h.free,h.high,h.some1⟩
theorem Pl.ok.setCell {P:Pl} (h:P.ok) (a n:Int):(P.setCell a n).2.ok/\(P.setCell a n).2.n=P.n:=by
 unfold Pl.setCell;split
 ·rename_i y;have:=Pl.mQ y;exact ⟨h.set ((h _ this.2.2.2.2.1).put _),rfl⟩
 exact ⟨h,rfl⟩
theorem Pl.ok.free {P:Pl} (h:P.ok) (a:Int):(P.free a).2.ok/\(P.free a).2.n=P.n:=by
 unfold Pl.free;split
 ·rename_i y;have:=Pl.mQ y;split
  ·exact ⟨h.set ((h _ this.2.2.2.2.1).release (by omega) _),rfl⟩
  exact ⟨h,rfl⟩
 exact ⟨h,rfl⟩
theorem Pl.kV {P:Pl} {c:Int} {k f:Nat} (h:P.frm c k=some f):f<k/\(P.pg f).partly c=true/\∀ i,i<k->(P.pg i).partly c=true->(P.pg f).count<=(P.pg i).count:=by
 induction k generalizing f with
 | zero=>simp [Pl.frm] at h
 | succ k ih=>
  unfold Pl.frm at h
  cases hk:P.frm c k with
  | none=>
   rw [hk] at h
   by_cases d:(P.pg k).partly c=true
   ·simp [d] at h;subst h;refine ⟨by omega,d,fun i hi y=>?_⟩
    by_cases e:i=k
    ·rw [e];exact Nat.le_refl _
    exfalso;clear ih;have:∀ m,m<=k->P.frm c m=none->∀ i,i<m->(P.pg i).partly c=false:=by
     intro m
     induction m with
     | zero=>intro _ _ i hi;omega
     | succ m h0=>
      intro hm z i hi;unfold Pl.frm at z
      cases hq:P.frm c m with
      | none=>
       rw [hq] at z;simp at z
       by_cases e2:i=m
       ·rw [e2];exact z
       exact h0 (by omega) hq i (by omega)
      | some g=>rw [hq] at z;simp only at z;split at z<;>cases z
    have:=this k (Nat.le_refl _) hk i (by omega);rw [y] at this;cases this
   simp [d] at h
  | some g=>
   rw [hk] at h;have hg:=ih hk;simp only at h;split at h
   ·rename_i d;simp at h;subst h;refine ⟨by omega,d.1,fun i hi y=>?_⟩
    by_cases e:i=k
    ·rw [e];exact Nat.le_refl _
    have:=hg.2.2 i (by omega) y;omega
   rename_i d;simp at h;subst h;refine ⟨by omega,hg.2.1,fun i hi y=>?_⟩
   by_cases e:i=k
   ·subst e;rcases Nat.le_total (P.pg g).count (P.pg i).count with h1|h1
    ·exact h1
    exact absurd ⟨y,h1⟩ d
   exact hg.2.2 i (by omega) y
theorem Pl.xB {P:Pl} {c:Int} {k:Nat} (h:P.frm c k=none):∀ i,i<k->(P.pg i).partly c=false:=by
 induction k with
 | zero=>intro i d;omega
 | succ k e=>
  intro i d;unfold Pl.frm at h
  cases y:P.frm c k with
  | none=>
   rw [y] at h;simp at h
   by_cases z:i=k
   ·rw [z];exact h
   exact e y i (by omega)
  | some g=>rw [y] at h;simp only at h;split at h<;>cases h
theorem Pl.oN {P:Pl} {c:Int} {f:Option Nat} {k t:Nat} (h:P.too c f k=some t):t<k/\some t≠f/\(P.pg t).partly c=true:=by
 induction k generalizing t with
 | zero=>simp [Pl.too] at h
 | succ k d=>
  unfold Pl.too at h
  cases z:P.too c f k with
  | none=>
   rw [z] at h;simp only at h;split at h
   ·rename_i y;simp at h;subst h;exact ⟨by omega,y⟩
   cases h
  | some g=>
   rw [z] at h;simp only at h;split at h
   ·rename_i y;simp at h;subst h;exact ⟨by omega,y.1,y.2.1⟩
   simp at h;subst h;have:=d z;exact ⟨by omega,this.2⟩
structure Pl.Pair (P:Pl) (i j:Nat):Prop where
 hi:i<P.n
 hj:j<P.n
 ne:i≠j
 c:IsC (P.pg i).cls
 same:(P.pg j).cls=(P.pg i).cls
 pi:(P.pg i).partly (P.pg i).cls=true
 pj:(P.pg j).partly (P.pg i).cls=true
 le:(P.pg i).count<=(P.pg j).count
theorem Pl.iV {P:Pl} {c:Int} (hc:IsC c) {i j:Nat} (h:P.dY c=some (i,j)):P.Pair i j/\(P.pg i).cls=c:=by
 unfold Pl.dY at h
 cases hf:P.frm c P.n with
 | none=>rw [hf] at h;simp at h
 | some f=>
  rw [hf] at h
  cases ht:P.too c (some f) P.n with
  | none=>rw [ht] at h;simp at h
  | some t=>
   rw [ht] at h;simp at h;obtain ⟨rfl,rfl⟩:=h;have d:=Pl.kV hf;have y:=Pl.oN ht;have z:=(Pg.bF.1 d.2.1).1;have e2:=(Pg.bF.1 y.2.2).1;refine ⟨⟨d.1,y.1,fun e=>y.2.1 (by rw [e]),by rw [z];exact hc,by rw [z,e2],by rw [z];exact d.2.1,by rw [z];exact y.2.2,d.2.2 _ y.1 y.2.2⟩,z⟩
theorem Pl.eH {P:Pl} {i j:Nat} (h:P.pair=some (i,j)):P.Pair i j:=by
 unfold Pl.pair at h
 cases y:P.dY 0 with
 | some x=>rw [y] at h;simp at h;subst h;exact (Pl.iV (.inl rfl) y).1
 | none=>
  rw [y] at h;simp only [Option.none_or] at h
  cases z:P.dY 1 with
  | some x=>rw [z] at h;simp at h;subst h;exact (Pl.iV (.inr (.inl rfl)) z).1
  | none=>
   rw [z] at h;simp only [Option.none_or] at h;exact (Pl.iV (.inr (.inr rfl)) h).1
theorem Pl.aJz {P:Pl} (h:P.pair=none) {c:Int} (y:IsC c):P.dY c=none:=by
 unfold Pl.pair at h;simp only [Option.or_eq_none_iff] at h;rcases y with rfl|rfl|rfl
 ·exact h.1
 ·exact h.2.1
 exact h.2.2
theorem Pl.ok.moved {P:Pl} (h:P.ok) {i j:Nat} (y:P.Pair i j):(P.moved i j).ok/\(P.moved i j).n=P.n:=by
 unfold Pl.moved;have z:(P.pg i).cls≠-1:=by rcases y.c with e|e|e<;>omega
 refine ⟨Pl.ok.set (Pl.ok.set h ?_) ((h i y.hi).release z _),rfl⟩;have:=(h j y.hj).gap y.c y.pj;rw [y.same];exact (h j y.hj).take y.c (.inr y.same) this.1 _
theorem Pl.dF {P:Pl} (h:P.pair=none):P.move=(0,0,3,P):=by unfold Pl.move;rw [h]
theorem Pl.dK {P:Pl} {i j:Nat} (h:P.pair=some (i,j)):P.move=(((16*i+(P.pg i).top (P.pg i).cls*bsz (P.pg i).cls:Nat):Int),((16*j+(P.pg j).gap (P.pg j).cls*bsz (P.pg i).cls:Nat):Int),0,P.moved i j):=by unfold Pl.move;rw [h]
theorem Pl.ok.move {P:Pl} (h:P.ok):P.move.2.2.2.ok/\P.move.2.2.2.n=P.n:=by
 cases y:P.pair with
 | none=>rw [Pl.dF y];exact ⟨h,rfl⟩
 | some x=>obtain ⟨i,j⟩:=x;rw [Pl.dK y];exact h.moved (Pl.eH y)
def Pl.least (P:Pl) (c:Int) (k:Nat):Nat:=match P.frm c k with|none=>0|some f=>(P.pg f).count
def Pl.kD (P:Pl) (i:Nat):Nat:=if (P.pg i).cls = -1 then 0 else 8
def Pl.pot (P:Pl):Nat:=iQ P.kD P.n+P.least 0 P.n+P.least 1 P.n+P.least 2 P.n
theorem Pl.mG {P P':Pl} {c:Int} {k:Nat} (h:∀ i,i<k->(P'.pg i).partly c=(P.pg i).partly c/\((P.pg i).partly c=true->(P'.pg i).count=(P.pg i).count)) :
  P'.frm c k=P.frm c k/\P'.least c k=P.least c k:=by
 have h1:P'.frm c k=P.frm c k:=by
  induction k with
  | zero=>rfl
  | succ k ih=>
   have e:=ih fun i hi=>h i (by omega);have d:=h k (by omega);unfold Pl.frm;rw [e]
   cases z:P.frm c k with
   | none=>simp only [d.1]
   | some f=>
    have y:=Pl.kV z;simp only [d.1];rw [(h f (by omega)).2 y.2.1]
    by_cases hp:(P.pg k).partly c=true
    ·rw [d.2 hp]
    simp [hp]
 refine ⟨h1,?_⟩;unfold Pl.least;rw [h1]
 cases z:P.frm c k with
 | none=>rfl
 | some f=>
  have y:=Pl.kV z;exact (h f y.1).2 y.2.1
theorem Pl.least_le {P:Pl} {c:Int} (y:IsC c):P.least c P.n<=7:=by
 unfold Pl.least
 cases z:P.frm c P.n with
 | none=>exact Nat.zero_le _
 | some f=>
  have d:=(Pg.bF.1 (Pl.kV z).2.1).2;have:=y.sz;show (P.pg f).count<=7;omega
theorem Pl.aMA {P:Pl} {c:Int} {i k:Nat} (z:i<k) (d:(P.pg i).partly c=true):P.least c k<=(P.pg i).count:=by
 unfold Pl.least
 cases y:P.frm c k with
 | none=>exact Nat.zero_le _
 | some f=>exact (Pl.kV y).2.2 i z d
theorem Pl.qG {P:Pl} (h:P.ok) {i j:Nat} (y:P.Pair i j):((P.moved i j).pg i).count+1=(P.pg i).count/\((P.moved i j).pg j).count=(P.pg j).count+1/\∀ x,x≠i->x≠j->(P.moved i j).pg x=P.pg x:=by
 have z:(P.pg i).cls≠-1:=by rcases y.c with e|e|e<;>omega
 have ht:=(h i y.hi).top z;have hg:=(h j y.hj).gap y.c y.pj;have h0:=y.c.sz;unfold Pl.moved;refine ⟨?_,?_,fun x d h2=>?_⟩
 ·simp only [Pl.aP];exact aAh (by omega) ht.2
 ·simp only [Pl.aQ _ _ y.ne.symm,Pl.aP,y.same];exact aAg (by omega) hg.2
 rw [Pl.aQ _ _ d,Pl.aQ _ _ h2]
theorem Pl.rJ {P:Pl} (h:P.ok) {i j:Nat} (y:P.pair=some (i,j)):(P.moved i j).pot<P.pot:=by
 have hp:=Pl.eH y;obtain ⟨h1,h2,h3⟩:=Pl.qG h hp;have h4:(P.pg i).cls≠-1:=by rcases hp.c with e|e|e<;>omega
 have x2:=(h i hp.hi).aKU h4;have hb:(P.pg j).count<bpt (P.pg i).cls:=(Pg.bF.1 hp.pj).2;have x3:=hp.c.sz;have h8:P.least (P.pg i).cls P.n=(P.pg i).count:=by
  have d:P.dY (P.pg i).cls=some (i,j):=by
   unfold Pl.pair at y
   cases h0:P.dY 0 with
   | some x=>rw [h0] at y;simp at y;subst y;rw [(Pl.iV (.inl rfl) h0).2,h0]
   | none=>
    rw [h0] at y;simp only [Option.none_or] at y
    cases h1:P.dY 1 with
    | some x=>rw [h1] at y;simp at y;subst y;rw [(Pl.iV (.inr (.inl rfl)) h1).2,h1]
    | none=>
     rw [h1] at y;simp only [Option.none_or] at y;rw [(Pl.iV (.inr (.inr rfl)) y).2,y]
  unfold Pl.dY at d;unfold Pl.least
  cases hf:P.frm (P.pg i).cls P.n with
  | none=>rw [hf] at d;simp at d
  | some f=>
   rw [hf] at d
   cases ht:P.too (P.pg i).cls (some f) P.n with
   | none=>rw [ht] at d;simp at d
   | some t=>rw [ht] at d;simp at d;rw [d.1]
 have hn:(P.moved i j).n=P.n:=(h.moved hp).2;have h6:((P.moved i j).pg i).cls=(P.pg i).cls\/((P.moved i j).pg i).cls = -1/\(P.pg i).count=1:=by
  have e:(P.moved i j).pg i=(P.pg i).release ((P.pg i).top (P.pg i).cls):=by unfold Pl.moved;rw [Pl.aP]
  rw [e] at h1 ⊢;unfold Pg.release Pg.count at h1;unfold Pg.release;simp only at h1 ⊢
  by_cases h0:cnt (up (P.pg i).used ((P.pg i).top (P.pg i).cls) false) 8=0
  ·right;simp only [h0,if_true];rw [h0] at h1;exact ⟨trivial,h1.symm⟩
  left;simp only [h0,if_false]
 have h5:((P.moved i j).pg j).cls=(P.pg i).cls:=by
  unfold Pl.moved;rw [Pl.aQ _ _ hp.ne.symm,Pl.aP];rfl
 have z:∀ c,c≠(P.pg i).cls->IsC c->(P.moved i j).least c P.n=P.least c P.n:=by
  intro c hc h9;refine (Pl.mG fun x hx=>?_).2
  by_cases e1:x=i
  ·subst e1;have f1:(P.pg x).partly c=false:=by
    cases hq:(P.pg x).partly c with
    | false=>rfl
    | true=>exact absurd (Pg.bF.1 hq).1.symm hc
   have f2:((P.moved x j).pg x).partly c=false:=by
    cases hq:((P.moved x j).pg x).partly c with
    | false=>rfl
    | true=>
     have:=(Pg.bF.1 hq).1;rcases h6 with e|⟨e,_⟩
     ·exact absurd (this.symm.trans e) hc
     rcases h9 with e3|e3|e3<;>omega
   exact ⟨by rw [f1,f2],fun hq=>by rw [f1] at hq;cases hq⟩
  by_cases e2:x=j
  ·subst e2;have f1:(P.pg x).partly c=false:=by
    cases hq:(P.pg x).partly c with
    | false=>rfl
    | true=>exact absurd ((Pg.bF.1 hq).1.symm.trans hp.same) hc
   have f2:((P.moved i x).pg x).partly c=false:=by
    cases hq:((P.moved i x).pg x).partly c with
    | false=>rfl
    | true=>exact absurd ((Pg.bF.1 hq).1.symm.trans h5) hc
   exact ⟨by rw [f1,f2],fun hq=>by rw [f1] at hq;cases hq⟩
  rw [h3 x e1 e2];exact ⟨rfl,fun _=>rfl⟩
 have x1:iQ (P.moved i j).kD P.n+(P.kD i)=iQ P.kD P.n+(P.moved i j).kD i:=by
  refine qB hp.hi fun x _ hx=>?_;unfold Pl.kD
  by_cases e2:x=j
  ·subst e2;rw [h5,hp.same]
  rw [h3 x hx e2]
 have e8:P.kD i=8:=by unfold Pl.kD;rw [if_neg h4]
 have h7:iQ (P.moved i j).kD P.n+(P.moved i j).least (P.pg i).cls P.n<iQ P.kD P.n+P.least (P.pg i).cls P.n:=by
  rw [h8];rcases h6 with e|⟨e,e1⟩
  ·have e9:(P.moved i j).kD i=8:=by unfold Pl.kD;rw [if_neg (by rw [e];exact h4)]
   have hq:((P.moved i j).pg i).partly (P.pg i).cls=true:=Pg.bF.2 ⟨e,by have:=(Pg.bF.1 hp.pi).2;omega⟩;have:=Pl.aMA (k:=P.n) hp.hi hq;omega
  have e9:(P.moved i j).kD i=0:=by unfold Pl.kD;rw [if_pos e]
  have:=Pl.least_le (P:=P.moved i j) hp.c;rw [hn] at this;omega
 unfold Pl.pot;rw [hn];rcases hp.c with e|e|e<;>rw [e] at h7 z
 ·rw [z 1 (by omega) (.inr (.inl rfl)),z 2 (by omega) (.inr (.inr rfl))];omega
 ·rw [z 0 (by omega) (.inl rfl),z 2 (by omega) (.inr (.inr rfl))];omega
 rw [z 0 (by omega) (.inl rfl),z 1 (by omega) (.inr (.inl rfl))];omega
def lJ:Nat->Pl->Nat
 | 0,_=>0
 | k+1,P=>if P.move.2.2.1=0 then lJ k P.move.2.2.2+1 else 0
def Pl.moves (P:Pl):Nat:=lJ P.pot P
theorem aEQ {P:Pl} (h:P.ok) {k:Nat} (e:P.pot<=k):lJ k P=P.moves:=by
 have z:∀ k,∀ P:Pl,P.ok->∀ m,P.pot<=k->P.pot<=m->lJ k P=lJ m P:=by
  intro k
  induction k with
  | zero=>
   intro P h m d hm
   cases y:P.pair with
   | some x=>obtain ⟨i,j⟩:=x;have:=Pl.rJ h y;omega
   | none=>
    cases m with
    | zero=>rfl
    | succ m=>simp [lJ,Pl.dF y]
  | succ k ih=>
   intro P h m d hm
   cases y:P.pair with
   | none=>
    cases m with
    | zero=>simp [lJ,Pl.dF y]
    | succ m=>simp [lJ,Pl.dF y]
   | some x=>
    obtain ⟨i,j⟩:=x;have h1:=Pl.rJ h y
    cases m with
    | zero=>omega
    | succ m=>
     unfold lJ;rw [Pl.dK y];simp only [if_true];rw [ih _ (h.moved (Pl.eH y)).1 m (by omega) (by omega)]
 exact z k P h _ e (Nat.le_refl _)
theorem Pl.aAT {P:Pl} (h:P.pair=none):P.moves=0:=by
 unfold Pl.moves
 cases P.pot with
 | zero=>rfl
 | succ k=>simp [lJ,Pl.dF h]
theorem Pl.aHk {P:Pl} (h:P.ok) {i j:Nat} (y:P.pair=some (i,j)):P.moves=(P.moved i j).moves+1:=by
 have e:=Pl.rJ h y;obtain ⟨k,d⟩:∃ k,P.pot=k+1:=⟨P.pot - 1,by omega⟩;have z:=aEQ (h.moved (Pl.eH y)).1 (k:=k) (by omega);rw [<-z];unfold Pl.moves;rw [d,lJ,Pl.dK y];simp
theorem Pl.aQe (P:Pl):P.pot<=8*P.n+21:=by
 have y:iQ P.kD P.n<=8*P.n:=aIQ fun i _=>by unfold Pl.kD;split<;>omega
 have z:=Pl.least_le (P:=P) (c:=0) (.inl rfl);have d:=Pl.least_le (P:=P) (c:=1) (.inr (.inl rfl));have e:=Pl.least_le (P:=P) (c:=2) (.inr (.inr rfl));unfold Pl.pot;omega
theorem aJP (k:Nat) (P:Pl):lJ k P<=k:=by
 induction k generalizing P with
 | zero=>exact Nat.le_refl _
 | succ k y=>unfold lJ;split;have:=y P.move.2.2.2;omega;omega
theorem Pl.aMt (P:Pl):P.moves<=8*P.n+21:=Nat.le_trans (aJP _ _) (Pl.aQe P)
end Go.Proofs.YthflghdaejbdkaaGreat
namespace Go.Proofs.YthflghdaejbdkaaGreat
open _root_.Go.Proofs.Tryz (prog)
open Go.RowKit
def IsO (v:Value):Option Nat->Prop|none=>v=.int .i64 (-1)|some f=>v=.int .i64 (f:Int)
theorem aGh {P:Pl} {c:Int} {k:Nat} {fr:Option Nat} (h:P.frm c k=fr) (y:(P.pg k).partly c=false):P.frm c (k+1)=fr:=by
 unfold Pl.frm;rw [h]
 cases fr<;>simp [y]
theorem aDQ {P:Pl} {c:Int} {k:Nat} (h:P.frm c k=none) (y:(P.pg k).partly c=true):P.frm c (k+1)=some k:=by
 unfold Pl.frm;rw [h];simp [y]
theorem aGj {P:Pl} {c:Int} {k f:Nat} (h:P.frm c k=some f) (z:(P.pg k).partly c=true) (y:(P.pg k).count<=(P.pg f).count):P.frm c (k+1)=some k:=by
 unfold Pl.frm;rw [h];simp [z,y]
theorem aGi {P:Pl} {c:Int} {k f:Nat} (h:P.frm c k=some f) (y:¬ (P.pg k).count<=(P.pg f).count):P.frm c (k+1)=some f:=by
 unfold Pl.frm;rw [h];simp [y]
theorem aFA {P:Pl} {c:Int} {f t:Option Nat} {k:Nat} (h:P.too c f k=t) (y:some k=f):P.too c f (k+1)=t:=by
 unfold Pl.too;rw [h]
 cases t<;>simp [y]
theorem wL {P:Pl} {c:Int} {f t:Option Nat} {k:Nat} (h:P.too c f k=t) (y:(P.pg k).partly c=false):P.too c f (k+1)=t:=by
 unfold Pl.too;rw [h]
 cases t<;>simp [y]
theorem aCz {P:Pl} {c:Int} {f:Option Nat} {k:Nat} (h:P.too c f k=none) (y:some k≠f) (z:(P.pg k).partly c=true):P.too c f (k+1)=some k:=by
 unfold Pl.too;rw [h];simp [z,y]
theorem aFB {P:Pl} {c:Int} {f:Option Nat} {k t:Nat} (h:P.too c f k=some t) (z:some k≠f) (d:(P.pg k).partly c=true) (y:(P.pg t).count<(P.pg k).count):P.too c f (k+1)=some k:=by
 unfold Pl.too;rw [h];simp [d,z,y]
theorem aFC {P:Pl} {c:Int} {f:Option Nat} {k t:Nat} (h:P.too c f k=some t) (y:¬ (P.pg t).count<(P.pg k).count):P.too c f (k+1)=some t:=by
 unfold Pl.too;rw [h];simp [y]
set_option maxHeartbeats 1600000
set_option maxRecDepth 100000
set_option linter.unusedVariables false
structure fA (w:World) (q k c l:Nat) (P:Pl):Prop where
 hq:∃ T c1 c2 c3,Row w q T [.slice (some ⟨k,0,none⟩) P.n c1,.slice (some ⟨c,0,none⟩) (P.n*16) c2,.slice (some ⟨l,0,none⟩) (P.n*16) c3]
 rk:∃ T cs,Row w k T cs
 rc:∃ T cs,Row w c T cs
 rl:∃ T cs,Row w l T cs
 kind:∀ i,i<P.n->w.cell? ⟨k,i,none⟩=some (.int .i64 (P.pg i).cls)
 cells:∀ i,i<P.n->∀ j,j<16->w.cell? ⟨c,i*16+j,none⟩=some (.int .i64 ((P.pg i).cell j))
 live:∀ i,i<P.n->∀ j,j<16->w.cell? ⟨l,i*16+j,none⟩=some (.bool ((P.pg i).live j))
 ne:q≠k/\q≠c/\q≠l/\k≠c/\k≠l/\c≠l
 n1:1<=P.n
 n24:P.n<=24
theorem fA.only {w w':World} {q k c l:Nat} {P:Pl} {F:List Nat} (h:fA w q k c l P) (o:Only F w w') (h1:q∉F) (d:k∉F) (e:c∉F) (h4:l∉F):fA w' q k c l P:=
 ⟨by obtain ⟨T,c1,c2,c3,r⟩:=h.hq;exact ⟨T,c1,c2,c3,o.row r h1⟩,h.rk.imp fun _ x=>x.imp fun _ y=>o.row y d,h.rc.imp fun _ x=>x.imp fun _ y=>o.row y e,h.rl.imp fun _ x=>x.imp fun _ y=>o.row y h4,
  fun i z=>o.cell (h.kind i z) d,fun i z j hj=>o.cell (h.cells i z j hj) e,fun i z j hj=>o.cell (h.live i z j hj) h4,h.ne,h.n1,h.n24⟩
theorem fA.sV {w w':World} {q k c l:Nat} {P:Pl} (h:fA w q k c l P) (d:lX w w'):fA w' q k c l P:=h.only (d.only []) (by simp) (by simp) (by simp) (by simp)
theorem fA.facts {w:World} {q k c l:Nat} {P:Pl} (h:fA w q k c l P):∃ z d e,w.cell? ⟨q,0,none⟩=some (.slice (some ⟨k,0,none⟩) P.n z)/\w.cell? ⟨q,1,none⟩=some (.slice (some ⟨c,0,none⟩) (P.n*16) d)/\w.cell? ⟨q,2,none⟩=some (.slice (some ⟨l,0,none⟩) (P.n*16) e)/\
  (∀ i,w.frozen? ⟨k,i,none⟩=false)/\(∀ i,w.frozen? ⟨c,i,none⟩=false)/\(∀ i,w.frozen? ⟨l,i,none⟩=false)/\(q<w.heap.size/\k<w.heap.size/\c<w.heap.size/\l<w.heap.size):=by
 obtain ⟨⟨T,z,d,e,y⟩,⟨_,_,hk⟩,⟨_,_,hc⟩,⟨_,_,hl⟩,_⟩:=h;exact ⟨z,d,e,y.cell 0 rfl,y.cell 1 rfl,y.cell 2 rfl,hk.free,hc.free,hl.free,y.lt,hk.lt,hc.lt,hl.lt⟩
theorem aJi {w:World} {b x y:Nat} {v u:Value} (h:w.cell? ⟨b,y,none⟩=some u):(w.setCell ⟨b,x,none⟩ v).cell? ⟨b,y,none⟩=some (if y=x then v else u):=by
 by_cases e:y=x
 ·subst e;rw [if_pos rfl];exact World.cell?_setCell_same _ _ _ h
 rw [if_neg e,World.cell?_setCell_other _ _ _ _ (fun z=>by injection z with _ h3 _;omega)];exact h
theorem fA.setKind {w:World} {q k c l:Nat} {P:Pl} (h:fA w q k c l P) {i:Nat} (hi:i<P.n) (v:Int) (hl:∀ j,j<16->({ P.pg i with cls:=v }:Pg).live j=(P.pg i).live j) :
  fA (w.setCell ⟨k,i,none⟩ (.int .i64 v)) q k c l (P.set i { P.pg i with cls:=v }):=by
 have o:Only [k] w (w.setCell ⟨k,i,none⟩ (.int .i64 v)):=(Only.refl _ _).set (by simp) _;obtain ⟨n1,n2,n3,z,d,n6⟩:=h.ne;refine ⟨?_,?_,h.rc.imp fun _ x=>x.imp fun _ y=>o.row y (by simpa using z.symm),h.rl.imp fun _ x=>x.imp fun _ y=>o.row y (by simpa using d.symm),fun x hx=>?_,fun x hx j hj=>?_,fun x hx j hj=>?_,h.ne,h.n1,h.n24⟩
 ·obtain ⟨T,c1,c2,c3,r⟩:=h.hq;exact ⟨T,c1,c2,c3,o.row r (by simpa using n1)⟩
 ·obtain ⟨T,cs,r⟩:=h.rk;exact ⟨T,_,r.set _ _⟩
 ·rw [aJi (h.kind x hx)]
  by_cases e:x=i
  ·subst e;rw [if_pos rfl,Pl.aP]
  rw [if_neg e,Pl.aQ _ _ e]
 ·rw [o.cell (h.cells x hx j hj) (by simpa using z.symm)]
  by_cases e:x=i
  ·subst e;rw [Pl.aP]
  rw [Pl.aQ _ _ e]
 rw [o.cell (h.live x hx j hj) (by simpa using d.symm)]
 by_cases e:x=i
 ·subst e;rw [Pl.aP,hl j hj]
 rw [Pl.aQ _ _ e]
theorem fA.aJl {w:World} {q k c l:Nat} {P:Pl} (h:fA w q k c l P) {i j:Nat} (hi:i<P.n) (hj:j<16) (v:Bool) (u:Nat->Bool) (hl:∀ x,x<16->({ P.pg i with used:=u }:Pg).live x=if x=j then v else (P.pg i).live x) :
  fA (w.setCell ⟨l,i*16+j,none⟩ (.bool v)) q k c l (P.set i { P.pg i with used:=u }):=by
 have o:Only [l] w (w.setCell ⟨l,i*16+j,none⟩ (.bool v)):=(Only.refl _ _).set (by simp) _;obtain ⟨n1,n2,n3,n4,d,n6⟩:=h.ne;refine ⟨?_,h.rk.imp fun _ x=>x.imp fun _ y=>o.row y (by simpa using d),h.rc.imp fun _ x=>x.imp fun _ y=>o.row y (by simpa using n6),?_,fun x hx=>?_,fun x hx y hy=>?_,fun x hx y hy=>?_,h.ne,h.n1,h.n24⟩
 ·obtain ⟨T,c1,c2,c3,r⟩:=h.hq;exact ⟨T,c1,c2,c3,o.row r (by simpa using n3)⟩
 ·obtain ⟨T,cs,r⟩:=h.rl;exact ⟨T,_,r.set _ _⟩
 ·rw [o.cell (h.kind x hx) (by simpa using d)]
  by_cases e:x=i
  ·subst e;rw [Pl.aP]
  rw [Pl.aQ _ _ e]
 ·rw [o.cell (h.cells x hx y hy) (by simpa using n6)]
  by_cases e:x=i
  ·subst e;rw [Pl.aP]
  rw [Pl.aQ _ _ e]
 rw [aJi (h.live x hx y hy)]
 by_cases e:x=i
 ·subst e;rw [Pl.aP,hl y hy]
  by_cases z:y=j
  ·rw [if_pos (by omega),if_pos z]
  rw [if_neg (by omega),if_neg z]
 rw [Pl.aQ _ _ e,if_neg (by omega)]
theorem fA.setCell {w:World} {q k c l:Nat} {P:Pl} (h:fA w q k c l P) {i j:Nat} (hi:i<P.n) (hj:j<16) (v:Int) :
  fA (w.setCell ⟨c,i*16+j,none⟩ (.int .i64 v)) q k c l (P.set i { P.pg i with cell:=up (P.pg i).cell j v }):=by
 have o:Only [c] w (w.setCell ⟨c,i*16+j,none⟩ (.int .i64 v)):=(Only.refl _ _).set (by simp) _;obtain ⟨n1,n2,n3,d,n5,n6⟩:=h.ne;refine ⟨?_,h.rk.imp fun _ x=>x.imp fun _ y=>o.row y (by simpa using d),?_,h.rl.imp fun _ x=>x.imp fun _ y=>o.row y (by simpa using n6.symm),fun x hx=>?_,fun x hx y hy=>?_,fun x hx y hy=>?_,h.ne,h.n1,h.n24⟩
 ·obtain ⟨T,c1,c2,c3,r⟩:=h.hq;exact ⟨T,c1,c2,c3,o.row r (by simpa using n2)⟩
 ·obtain ⟨T,cs,r⟩:=h.rc;exact ⟨T,_,r.set _ _⟩
 ·rw [o.cell (h.kind x hx) (by simpa using d)]
  by_cases e:x=i
  ·subst e;rw [Pl.aP]
  rw [Pl.aQ _ _ e]
 ·rw [aJi (h.cells x hx y hy)]
  by_cases e:x=i
  ·subst e;rw [Pl.aP];show _=some (Value.int .i64 (up _ _ _ _))
   by_cases z:y=j
   ·subst z;rw [if_pos rfl,bP]
   rw [if_neg (by omega),aV _ _ z]
  rw [Pl.aQ _ _ e,if_neg (by omega)]
 rw [o.cell (h.live x hx y hy) (by simpa using n6.symm)]
 by_cases e:x=i
 ·subst e;rw [Pl.aP];rfl
 rw [Pl.aQ _ _ e]
theorem Pg.oC {p:Pg} (h:p.cls = -1) (j:Nat):p.live j=false:=by simp [Pg.live,h]
theorem Pg.uM {p:Pg} (h:IsC p.cls) (k:Nat):p.live (k*bsz p.cls)=p.used k:=by
 have y:p.cls≠-1:=by rcases h with e|e|e<;>omega
 simp [Pg.live,y,(h.mul_div k).1]
theorem Pg.aBT {p:Pg} (h:IsC p.cls) (j:Nat):p.live j=true↔j=j / bsz p.cls*bsz p.cls/\p.used (j / bsz p.cls)=true:=by
 have h1:p.cls≠-1:=by rcases h with e|e|e<;>omega
 have d:=h.facts;simp only [Pg.live,Bool.and_eq_true,decide_eq_true_eq];constructor
 ·rintro ⟨⟨_,y⟩,z⟩;exact ⟨by rcases d with ⟨e,_⟩|⟨e,_⟩|⟨e,_⟩<;>(rw [e] at y ⊢;omega),z⟩
 rintro ⟨y,z⟩;exact ⟨⟨h1,by rcases d with ⟨e,_⟩|⟨e,_⟩|⟨e,_⟩<;>(rw [e] at y ⊢;omega)⟩,z⟩
theorem Pg.aJV {p:Pg} (h:IsC p.cls) (k:Nat) (v:Bool) (x:Nat):({ p with used:=up p.used k v }:Pg).live x=if x=k*bsz p.cls then v else p.live x:=by
 have h1:p.cls≠-1:=by rcases h with e|e|e<;>omega
 by_cases e:x=k*bsz p.cls
 ·subst e;rw [if_pos rfl];have:=Pg.uM (p:={ p with used:=up p.used k v }) h k;rw [this];exact bP _ _ _
 rw [if_neg e];unfold Pg.live
 by_cases y:x % bsz p.cls=0
 ·have:x / bsz p.cls≠k:=by
   intro z;apply e;rw [<-z];have d:=h.facts;rcases d with ⟨e,_⟩|⟨e,_⟩|⟨e,_⟩<;>(rw [e] at y ⊢;omega)
  show (decide (p.cls≠-1) && decide (x % bsz p.cls=0) && up p.used k v (x / bsz p.cls))=_;rw [aV _ _ this]
 simp [y]
def Pg.okw (p:Pg):Prop:=(p.cls = -1/\∀ k,p.used k=false)\/(IsC p.cls/\∀ k,bpt p.cls<=k->p.used k=false)
theorem Pg.ok.w {p:Pg} (h:p.ok):p.okw:=by
 rcases h.cls with y|y
 ·exact .inl ⟨y,h.free y⟩
 exact .inr ⟨y,h.high (by rcases y with e|e|e<;>omega)⟩
theorem Pg.aFV {p:Pg} (h:p.okw):cnt p.live 16=p.count:=by
 rcases h with ⟨hc,hf⟩|⟨hc,hh⟩
 ·rw [show p.count=0 from kW fun j _=>hf j];exact kW fun j _=>Pg.oC hc j
 have h0:p.cls≠-1:=by rcases hc with e|e|e<;>omega
 rw [show p.count=cnt p.used (bpt p.cls) from aGo hc.sz.2.2.2 fun j h1 _=>hh j h1];have z:∀ k,p.live (k*bsz p.cls)=p.used k:=Pg.uM hc;have y:∀ j,j % bsz p.cls≠0->p.live j=false:=fun j hj=>by simp [Pg.live,hj]
 rcases hc.facts with ⟨e1,e2⟩|⟨e1,e2⟩|⟨e1,e2⟩
 ·rw [e1] at z y;rw [e2];have d:=z 0;have a1:=z 1;have a2:=z 2;have a3:=z 3;have a4:=z 4;have a5:=z 5;have a6:=z 6;have a7:=z 7;simp only [Nat.zero_mul,Nat.one_mul,Nat.reduceMul] at d a1 a2 a3 a4 a5 a6 a7;simp only [cnt,d,a1,a2,a3,a4,a5,a6,a7,y 1 (by decide),y 3 (by decide),y 5 (by decide),y 7 (by decide),y 9 (by decide),y 11 (by decide),y 13 (by decide),y 15 (by decide)];simp
 ·rw [e1] at z y;rw [e2];have d:=z 0;have a1:=z 1;have a2:=z 2;have a3:=z 3;simp only [Nat.zero_mul,Nat.one_mul,Nat.reduceMul] at d a1 a2 a3;simp only [cnt,d,a1,a2,a3,y 1 (by decide),y 2 (by decide),y 3 (by decide),y 5 (by decide),y 6 (by decide),y 7 (by decide),y 9 (by decide),y 10 (by decide),y 11 (by decide),y 13 (by decide),y 14 (by decide),y 15 (by decide)];simp
 rw [e1] at z y;rw [e2];have d:=z 0;have a1:=z 1;simp only [Nat.zero_mul,Nat.one_mul] at d a1;simp only [cnt,d,a1,y 1 (by decide),y 2 (by decide),y 3 (by decide),y 4 (by decide),y 5 (by decide),y 6 (by decide),y 7 (by decide),y 9 (by decide),y 10 (by decide),y 11 (by decide),y 12 (by decide),y 13 (by decide),y 14 (by decide),y 15 (by decide)];simp
theorem aAd (w:World) (c:Int) (h:IsC c):Calls prog 229 #[.int .i64 c] w (aO w (.int .i64 (bsz c))):=by
 refine aF fun R z=>?_;have hb:Hid (∀ k:Nat,k<=2->bsz (k:Int)=2*2 ^ k):=fun k _=>rfl;obtain ⟨C,rfl,hC⟩:∃ C:Nat,c=C/\C<=2:=⟨c.toNat,by rcases h with e|e|e<;>omega,by rcases h with e|e|e<;>omega⟩
 go_in;go_wp2;go_loop [3,4] (fun n i=>∃ k:Nat,k<=C/\i=.int .i64 k/\n=.int .i64 (bsz (k:Int):Nat)) (fun _ i=>C - (intOf i).toNat)
 case atStart=>exact ⟨0,by omega,rfl,rfl⟩
 case round=>
  obtain ⟨k,hk,rfl,rfl⟩:=hrel
  by_cases d:k<C
  ·have hs:Hid (bsz ((k+1:Nat):Int)=2*bsz (k:Int)):=by show _=_;rw [hb.o _ (by omega),hb.o _ (by omega),Nat.pow_succ];omega
   have h8:bsz (k:Int)<=8:=by
    have y:k=0\/k=1:=by omega
    rcases y with rfl|rfl<;>decide
   go_wp2_with fail;go_round
   case rel=>exact ⟨k+1,by omega,by go_num,by rw [hs.o];go_num⟩
   case measure=>simp [intOf];omega
  obtain rfl:k=C:=by omega
  go_wp2;exact z.o _ _ ⟨rfl,rfl⟩
theorem nR (w:World) (q k c l:Nat) (P:Pl) (h:fA w q k c l P) (i:Nat) (hi:i<P.n) (z:(P.pg i).okw) :
  Calls prog 272 #[.pointer (some ⟨q,0,none⟩),.int .i64 i] w (aO w (.int .i64 (P.pg i).count)):=by
 refine aF fun R hR=>?_;obtain ⟨c1,c2,c3,z0,z1,z2,_⟩:=h.facts;have h1:=h.n24;have H:=aA h;have HL:=aA (Pg.aFV z);clear h z;go_in;go_wp2;go_loop [5,6] (fun n j=>∃ x:Nat,x<=16/\j=.int .i64 x/\n=.int .i64 (cnt (P.pg i).live x)) (fun _ j=>16 - (intOf j).toNat)
 case atStart=>exact ⟨0,by omega,rfl,rfl⟩
 case round=>
  obtain ⟨x,hx,rfl,rfl⟩:=hrel
  by_cases d:x<16
  ·have y:=H.o.live i hi x d;have h2:=qY (P.pg i).live x;have hs:Hid (cnt (P.pg i).live (x+1)=cnt (P.pg i).live x+if (P.pg i).live x then 1 else 0):=rfl;have h0:((i:Int)*16+(x:Int)).toNat=i*16+x:=by omega
   cases e:(P.pg i).live x<;>(rw [e] at y;rw [e] at hs)<;>(
    go_wp2_with fail;go_round
    case rel=>exact ⟨x+1,by omega,by go_num,by rw [hs.o];go_num⟩
    case measure=>simp [intOf];omega)
  obtain rfl:x=16:=by omega
  go_wp2;exact hR.o _ _ ⟨by rw [<-HL.o],rfl⟩
theorem IsC.full {c:Int} (h:IsC c):bpt c*bsz c=16:=by rcases h.facts with ⟨h1,h2⟩|⟨h1,h2⟩|⟨h1,h2⟩<;>rw [h1,h2]
theorem Pl.set_set (P:Pl) (i:Nat) (x y:Pg):(P.set i x).set i y=P.set i y:=by
 unfold Pl.set;congr 1;funext j
 by_cases e:j=i
 ·subst e;rw [bP,bP]
 rw [aV _ _ e,aV _ _ e];exact aV _ _ e
def aGf (P:Pl) (i:Nat):Int:=if (P.pg i).gap (P.pg i).cls<bpt (P.pg i).cls then ((16*i+(P.pg i).gap (P.pg i).cls*bsz (P.pg i).cls:Nat):Int) else -1
theorem tZ (w:World) (q k c l:Nat) (P:Pl) (h:fA w q k c l P) (i:Nat) (hi:i<P.n) (hC:IsC (P.pg i).cls) :
  Calls prog 252 #[.pointer (some ⟨q,0,none⟩),.int .i64 i] w (aO w (.int .i64 (aGf P i))):=by
 refine aF fun R hR=>?_;obtain ⟨c1,c2,c3,z0,z1,z2,_⟩:=h.facts;have x5:=h.n24;have h7:=h.kind i hi;obtain ⟨cl,h3⟩:∃ cl,cl=(P.pg i).cls:=⟨_,rfl⟩;have h4:Hid (aGf P i=if (P.pg i).gap cl<bpt cl then ((16*i+(P.pg i).gap cl*bsz cl:Nat):Int) else -1):=by show _=_;rw [h3];rfl
 have h9:Hid (∀ m,(P.pg i).live (m*bsz cl)=(P.pg i).used m):=by rw [h3];exact Pg.uM hC
 rw [<-h3] at hC h7;have hcut:=fun wx=>aAd wx cl hC;have h0:∀ k,k<bpt cl->k*bsz cl+bsz cl<=16/\(k+1)*bsz cl=k*bsz cl+bsz cl:=fun k hk=>hC.blk hk;have y:=hC.full;have h6:=hC.sz;obtain ⟨z,hz⟩:∃ z,z=bsz cl:=⟨_,rfl⟩;obtain ⟨n,hn⟩:∃ n,n=bpt cl:=⟨_,rfl⟩;have HZ:=aA hz;have HN:=aA hn;rw [<-hz] at h0 y h6 h4 hcut h9;rw [<-hn] at h0 y h6 h4;have HB:=aA h0;have HF:=aA y;have x7:2<=z:=by omega
 have x8:z<=8:=by omega
 have x6:n<=8:=by omega
 have H:=aA h;clear hz hn h0 y h6 h h3;go_in;go_wp2;go_loop [5] (fun v=>∃ m s:Nat,m<=n/\Hid (s=m*z)/\v=.int .i64 s/\Hid (∀ x,x<m->(P.pg i).used x=true)/\s<=16) (fun v=>16 - (intOf v).toNat)
 case atStart=>exact ⟨0,0,by omega,(Nat.zero_mul _).symm,rfl,fun x hx=>by omega,by omega⟩
 case round=>
  obtain ⟨m,s,hm,hs,rfl,hu,x4⟩:=hrel
  by_cases h5:m<n
  ·have hb:=HB.o _ h5;have x3:s+z<=16:=by rw [hs.o];exact hb.1
   have h8:Hid (s+z=(m+1)*z):=by show _=_;rw [hb.2,hs.o]
   have d:=H.o.live i hi s (by omega);rw [show (P.pg i).live s=(P.pg i).used m by rw [hs.o];exact h9.o m] at d;have x2:((i:Int)*16+(s:Int)).toNat=i*16+s:=by omega
   clear hb
   cases h1:(P.pg i).used m with
   | true=>
    rw [h1] at d;have HU:=aA h1;clear h1;go_wp2_with fail;refine (hcut _).mono ?_;rintro e _ ⟨rfl,rfl⟩;go_wp2_with fail;go_round
    case rel=>exact ⟨m+1,s+z,by omega,h8,by go_num,fun x hx=>by
     by_cases e:x=m
     ·rw [e];exact HU.o
     exact hu.o x (by omega),by omega⟩
    case measure=>simp [intOf];omega
   | false=>
    rw [h1] at d;have h2:Hid (aGf P i=(i:Int)*16+(s:Int)):=by
     have e1:(P.pg i).gap cl=m:=by
      unfold Pg.gap;exact lD (by rw [<-HN.o];exact h5) (by rw [h1];rfl) (fun x hx=>by rw [hu.o x hx];rfl)
     show _=_;rw [h4.o,e1,if_pos h5,<-hs.o];omega
    clear h1;go_wp2;exact hR.o _ _ ⟨by rw [h2.o],rfl⟩
  obtain rfl:m=n:=by omega
  have x1:s=16:=by rw [hs.o];exact HF.o
  have h2:Hid (aGf P i = -1):=by
   have e1:(P.pg i).gap cl=m:=by
    rw [HN.o];unfold Pg.gap;exact fP (fun x hx=>by rw [<-HN.o] at hx;rw [hu.o x hx];rfl)
   show _=_;rw [h4.o,e1,if_neg (by omega)]
  subst x1;go_wp2;exact hR.o _ _ ⟨by rw [h2.o],rfl⟩
theorem aHT {p:Pg} (h:p.ok) (d:IsC p.cls):(p.gap p.cls<bpt p.cls)↔p.partly p.cls=true:=by
 have y:p.cls≠-1:=by rcases d with e|e|e<;>omega
 constructor
 ·intro hg;refine Pg.bF.2 ⟨rfl,?_⟩;rw [h.count y];have z:=(dU (fun k=>!p.used k) (bpt p.cls)).2 hg;exact aBk.2 ⟨_,hg,by simp only [Bool.not_eq_true'] at z;exact z⟩
 exact fun hp=>(h.gap d hp).1
theorem aEr (w:World) (q k c l:Nat) (P:Pl) (h:fA w q k c l P) (i:Nat) (hi:i<P.n) (cl:Int) (hC:IsC cl) (d:(P.pg i).cls=cl) (x m z:Nat) (hx:x<bpt cl) (hz:z=bsz cl) (hm:m=x*z) (a:Int) (ha:a=((i*16+m:Nat):Int)) :
  Calls prog 253 #[.pointer (some ⟨q,0,none⟩),.int .i64 a,.int .i64 z] w fun e w'=>e=.returned (.tuple #[])/\fA w' q k c l (P.set i ((P.pg i).take cl x fun _=>0))/\Only [c,l] w w':=by
 refine aF fun R hR=>?_;obtain ⟨A,hA⟩:∃ A:Nat,A=i*16+m:=⟨_,rfl⟩;rw [<-hA] at ha;subst ha;obtain ⟨c1,c2,c3,z0,z1,z2,f0,f1,f2,_⟩:=h.facts;have x1:=h.n24;have h8:=hC.sz;have hb:=hC.blk hx;rw [<-hz,<-hm] at hb;have h4:m<16:=by omega
 have x5:m+z<=16:=hb.1;have x6:z<=8:=by omega
 have h5:=h.live i hi m h4;rw [<-hA] at h5;have x2:A<P.n*16:=by omega
 have h1:=h.aJl hi h4 true (up (P.pg i).used x true) (fun y hy=>by
  rw [show m=x*bsz (P.pg i).cls by rw [d,<-hz];exact hm];exact Pg.aJV (by rw [d];exact hC) x true y)
 rw [<-hA] at h1;have o1:Only [c,l] w (w.setCell ⟨l,A,none⟩ (.bool true)):=(Only.refl _ _).set (by simp) _;have h7:Hid (fA (w.setCell ⟨l,A,none⟩ (.bool true)) q k c l (P.set i { cls:=cl,used:=up (P.pg i).used x true,cell:=fun j=>if m<=j/\j<m+0 then 0 else (P.pg i).cell j })):=by
  have e:({ P.pg i with used:=up (P.pg i).used x true }:Pg)={ cls:=cl,used:=up (P.pg i).used x true,cell:=fun j=>if m<=j/\j<m+0 then 0 else (P.pg i).cell j }:=by
   show (⟨(P.pg i).cls,up (P.pg i).used x true,(P.pg i).cell⟩:Pg)=_;rw [d];congr 1;funext j;rw [if_neg (by omega)]
  rw [e] at h1;exact h1
 have h6:Hid ((P.pg i).take cl x (fun _=>0)={ cls:=cl,used:=up (P.pg i).used x true,cell:=fun j=>if m<=j/\j<m+z then 0 else (P.pg i).cell j }):=by
  show _=_;unfold Pg.take;rw [<-hz,<-hm]
 have O1:=aA o1;have HA:=aA hA;clear h h1 o1 hb h8 d hz hm hA;go_in;go_wp2;go_loopw [6] (fun v wr=>∃ y:Nat,y<=z/\v=.int .i64 y/\fA wr q k c l (P.set i { cls:=cl,used:=up (P.pg i).used x true,cell:=fun j=>if m<=j/\j<m+y then 0 else (P.pg i).cell j })/\Only [c,l] w wr) (fun v _=>z - (intOf v).toNat)
 case atStart=>exact ⟨0,by omega,rfl,h7.o,O1.o⟩
 case round=>
  clear z0 z1 z2 f0 f1 f2 h5;obtain ⟨y,hy,rfl,h2,o2⟩:=hrel;obtain ⟨d1,d2,d3,z0,z1,z2,f0,f1,f2,_⟩:=h2.facts;simp only [Pl.aPX] at z0 z1 z2
  by_cases x4:y<z
  ·have h0:=h2.cells i hi (m+y) (by omega);have x3:A+y<P.n*16:=by have:=HA.o;omega
   have h3:=h2.setCell (i:=i) (j:=m+y) hi (by omega) 0;rw [Pl.aP,Pl.set_set] at h3;have e:up (fun j=>if m<=j/\j<m+y then (0:Int) else (P.pg i).cell j) (m+y) 0=fun j=>if m<=j/\j<m+(y+1) then 0 else (P.pg i).cell j:=by
    funext j;unfold up
    by_cases e1:j=m+y
    ·rw [if_pos e1,if_pos (by omega)]
    rw [if_neg e1];show (if m<=j/\j<m+y then (0:Int) else (P.pg i).cell j)=_
    by_cases e2:m<=j/\j<m+y
    ·rw [if_pos e2,if_pos (by omega)]
    rw [if_neg e2,if_neg (by omega)]
   have H3:Hid (fA (wr.setCell ⟨c,A+y,none⟩ (.int .i64 0)) q k c l (P.set i { cls:=cl,used:=up (P.pg i).used x true,cell:=fun j=>if m<=j/\j<m+(y+1) then 0 else (P.pg i).cell j })):=by
    rw [HA.o,Nat.add_assoc,<-e];exact h3
   have h9:((A:Int)+(y:Int)).toNat=A+y:=by omega
   rw [<-Nat.add_assoc,<-HA.o] at h0;have H2:=aA h2;clear h2 h3 e;go_wp2;exact ⟨⟨y+1,by omega,by go_num,H3.o,o2.set (by simp) _⟩,by simp [intOf];omega⟩
  obtain rfl:y=z:=by omega
  go_wp2_with fail;go_end0;refine hR.o _ _ ⟨rfl,?_,o2⟩;rw [h6.o];exact h2
set_option maxHeartbeats 3200000
theorem aCc {P:Pl} {i:Nat} (y:(P.pg i).ok) {c:Int} (d:IsC c) (z:(P.pg i).cls=c) (e:(P.pg i).partly c=false):aGf P i = -1:=by
 unfold aGf;rw [if_neg];rw [aHT y (by rw [z];exact d),z,e];simp
theorem aCb {P:Pl} {i:Nat} (y:(P.pg i).ok) {c:Int} (e:IsC c) (d:(P.pg i).partly c=true):aGf P i=((16*i+(P.pg i).gap c*bsz c:Nat):Int)/\(P.pg i).gap c<bpt c:=by
 have he:=(Pg.bF.1 d).1;have z:=(y.gap e d).1;unfold aGf;rw [he,if_pos z];exact ⟨rfl,z⟩
theorem aEC (w:World) (q k c l:Nat) (P:Pl) (h:fA w q k c l P) (h6:P.ok) (cl:Int) (z:IsC cl) (i:Nat) (hi:i<P.n) (hp:(P.pg i).partly cl=true) (hb:∀ j,j<i->(P.pg j).partly cl=false) :
  Calls prog 243 #[.pointer (some ⟨q,0,none⟩),.int .i64 cl] w fun e w'=>
   e=.returned (.tuple #[.int .i64 ((16*i+(P.pg i).gap cl*bsz cl:Nat):Int),.int .i64 0])/\fA w' q k c l (P.set i ((P.pg i).take cl ((P.pg i).gap cl) fun _=>0))/\Only [k,c,l] w w':=by
 refine aF fun R hR=>?_;have x5:decide (cl<0)=false:=by simp;rcases z with e|e|e<;>omega
 have x4:decide (2<cl)=false:=by simp;rcases z with e|e|e<;>omega
 have x2:(cl == -1)=false:=by rw [beq_eq_false_iff_ne];rcases z with e|e|e<;>omega
 obtain ⟨c1,c2,c3,z0,z1,z2,_⟩:=h.facts;have x1:=h.n24;have H:=aA h;have h3:=aA h6;have hcut:=fun wx=>aAd wx cl z;have h8:=aA hb;have h4:=aA hp;clear h h6 hb hp;go_in;go_wp2;go_loop [6] (fun v=>∃ j:Nat,j<=i/\v=.int .i64 j) (fun v=>i - (intOf v).toNat)
 case atStart=>exact ⟨0,by omega,rfl⟩
 case round=>
  obtain ⟨j,hj,rfl⟩:=hrel
  by_cases h5:j<i
  ·have d:j<P.n:=by omega
   have h1:=H.o.kind j d;have h0:=h8.o j h5
   cases hE:((P.pg j).cls == cl)
   ·clear h0;go_wp2_with fail;go_round
    case rel=>exact ⟨j+1,by omega,by go_num⟩
    case measure=>simp [intOf];omega
   have y:(P.pg j).cls=cl:=by simpa using hE
   have nD:=tZ w q k c l P H.o j d (by rw [y];exact z);rw [aCc (h3.o j d) z y h0] at nD;clear h0 y;go_wp2_with fail;go_fit nD;rintro e _ ⟨rfl,rfl⟩;go_wp2_with fail;go_round
   case rel=>exact ⟨j+1,by omega,by go_num⟩
   case measure=>simp [intOf];omega
  obtain rfl:j=i:=by omega
  have h1:=H.o.kind j hi;have y:=(Pg.bF.1 h4.o).1;have hE:((P.pg j).cls == cl)=true:=by simpa using y
  have nD:=tZ w q k c l P H.o j hi (by rw [y];exact z);obtain ⟨g1,g2⟩:=aCb (h3.o j hi) z h4.o;have h7:Hid (((16*j+(P.pg j).gap cl*bsz cl:Nat):Int)=aGf P j):=g1.symm;have x3:0<=aGf P j:=by rw [g1];omega
  have h9:=aEr w q k c l P H.o j hi cl z y ((P.pg j).gap cl) _ _ g2 rfl rfl (aGf P j) (by rw [g1];omega);rw [h7.o] at hR;clear y g1 g2 h5;go_wp2_with fail;go_fit nD;rintro e _ ⟨rfl,rfl⟩;go_wp2_with fail;go_fit nD;rintro e _ ⟨rfl,rfl⟩;go_wp2_with fail;refine (hcut _).mono ?_;rintro e _ ⟨rfl,rfl⟩;go_wp2_with fail;go_fit h9;rintro e w2 ⟨rfl,h2,o2⟩;go_wp2;exact hR.o _ _ ⟨rfl,h2,o2.mono (by simp)⟩
theorem aGX (w:World) (q k c l:Nat) (P:Pl) (h:fA w q k c l P) (h5:P.ok) (cl:Int) (hC:IsC cl) (hn:∀ j,j<P.n->(P.pg j).partly cl=false) (i:Nat) (hi:i<P.n) (hp:(P.pg i).cls<0) (hb:∀ j,j<i->¬ (P.pg j).cls<0) :
  Calls prog 243 #[.pointer (some ⟨q,0,none⟩),.int .i64 cl] w fun e w'=>
   e=.returned (.tuple #[.int .i64 ((16*i:Nat):Int),.int .i64 0])/\fA w' q k c l (P.set i ((P.pg i).take cl 0 fun _=>0))/\Only [k,c,l] w w':=by
 refine aF fun R hR=>?_;have x9:decide (cl<0)=false:=by simp;rcases hC with e|e|e<;>omega
 have x8:decide (2<cl)=false:=by simp;rcases hC with e|e|e<;>omega
 have x6:(cl == -1)=false:=by rw [beq_eq_false_iff_ne];rcases hC with e|e|e<;>omega
 obtain ⟨c1,c2,c3,z0,z1,z2,_⟩:=h.facts;have x5:=h.n24;have H:=aA h;have h6:=aA h5;have hcut:=fun wx=>aAd wx cl hC;have h8:=aA hb;have h9:=aA hn;have y:(P.pg i).cls = -1:=((h5 i hi).neg).1 hp;clear h h5 hb hn hp;go_in;go_wp2;go_loop [6] (fun v=>∃ j:Nat,j<=P.n/\v=.int .i64 j) (fun v=>P.n - (intOf v).toNat)
 case atStart=>exact ⟨0,by omega,rfl⟩
 case round=>
  obtain ⟨j,hj,rfl⟩:=hrel
  by_cases d:j<P.n
  ·have z:j<P.n:=by omega
   have h0:=H.o.kind j z;have h4:=h9.o j d
   cases hE:((P.pg j).cls == cl)
   ·clear h4;go_wp2_with fail;go_round
    case rel=>exact ⟨j+1,by omega,by go_num⟩
    case measure=>simp [intOf];omega
   have h3:(P.pg j).cls=cl:=by simpa using hE
   have nD:=tZ w q k c l P H.o j z (by rw [h3];exact hC);rw [aCc (h6.o j z) hC h3 h4] at nD;clear h4 h3;go_wp2_with fail;go_fit nD;rintro e _ ⟨rfl,rfl⟩;go_wp2_with fail;go_round
   case rel=>exact ⟨j+1,by omega,by go_num⟩
   case measure=>simp [intOf];omega
  have x2:j=P.n:=by omega
  subst x2;go_wp2;go_loop [8] (fun v=>∃ j:Nat,j<=i/\v=.int .i64 j) (fun v=>i - (intOf v).toNat)
  case atStart=>exact ⟨0,by omega,rfl⟩
  case round=>
   clear d;obtain ⟨j,hj,rfl⟩:=hrel
   by_cases d:j<i
   ·have z:j<P.n:=by omega
    have h0:=H.o.kind j z;have x4:=h8.o j d;have hE:((P.pg j).cls == -1)=false:=by rw [beq_eq_false_iff_ne];omega
    clear x4;go_wp2_with fail;go_round
    case rel=>exact ⟨j+1,by omega,by go_num⟩
    case measure=>simp [intOf];omega
   obtain rfl:j=i:=by omega
   clear d;have h0:=H.o.kind j hi;have hE:((P.pg j).cls == -1)=true:=by rw [y];rfl
   have x3:=H.o.ne;obtain ⟨n1,n2,n3,n4,n5,n6⟩:=x3;have x7:=H.o.facts.choose_spec.choose_spec.choose_spec.2.2.2.1;have h2:=H.o.setKind hi cl (fun x hx=>by
    rw [Pg.oC y];simp [Pg.live,(h6.o j hi).free y])
   have h1:=fun a ha=>aEr _ q k c l _ h2 j hi cl hC (by rw [Pl.aP]) 0 0 (bsz cl) (by have:=hC.sz;omega) rfl (by omega) a ha;rw [Pl.aP,Pl.set_set] at h1;have e1:({ P.pg j with cls:=cl }:Pg).take cl 0 (fun _=>0)=(P.pg j).take cl 0 fun _=>0:=rfl;rw [e1] at h1;have x1:=aA h1;have y0:IntKind.i64.wrap ((j:Int)*16)=(j:Int)*16:=IntWalk.i64_in _ (by omega);have h7:Hid (((16*j:Nat):Int)=(j:Int)*16):=by show _=_;omega
   rw [h7.o] at hR;clear h2 h1 e1;go_wp2_with fail;refine (hcut _).mono ?_;rintro e _ ⟨rfl,rfl⟩;go_wp2_with fail;refine (x1.o _ (by omega)).mono ?_;rintro e w2 ⟨rfl,h2,o2⟩;go_wp2;exact hR.o _ _ ⟨rfl,h2,((Only.refl [k,c,l] w).set (by simp) _).trans o2 (by simp)⟩
theorem aED (w:World) (q k c l:Nat) (P:Pl) (h:fA w q k c l P) (h2:P.ok) (cl:Int) (hC:IsC cl) (hn:∀ j,j<P.n->(P.pg j).partly cl=false) (hp:∀ j,j<P.n->¬ (P.pg j).cls<0) :
  Calls prog 243 #[.pointer (some ⟨q,0,none⟩),.int .i64 cl] w fun e w'=>e=.returned (.tuple #[.int .i64 0,.int .i64 14])/\w=w':=by
 refine aF fun R hR=>?_;have x2:decide (cl<0)=false:=by simp;rcases hC with e|e|e<;>omega
 have x1:decide (2<cl)=false:=by simp;rcases hC with e|e|e<;>omega
 have h9:(cl == -1)=false:=by rw [beq_eq_false_iff_ne];rcases hC with e|e|e<;>omega
 obtain ⟨c1,c2,c3,z0,z1,z2,_⟩:=h.facts;have h8:=h.n24;have H:=aA h;have h5:=aA h2;have hcut:=fun wx=>aAd wx cl hC;have h3:=aA hp;have h4:=aA hn;clear h h2 hn hp;go_in;go_wp2;go_loop [6] (fun v=>∃ j:Nat,j<=P.n/\v=.int .i64 j) (fun v=>P.n - (intOf v).toNat)
 case atStart=>exact ⟨0,by omega,rfl⟩
 case round=>
  obtain ⟨j,hj,rfl⟩:=hrel
  by_cases y:j<P.n
  ·have d:j<P.n:=by omega
   have h1:=H.o.kind j d;have h0:=h4.o j y
   cases hE:((P.pg j).cls == cl)
   ·clear h0;go_wp2_with fail;go_round
    case rel=>exact ⟨j+1,by omega,by go_num⟩
    case measure=>simp [intOf];omega
   have z:(P.pg j).cls=cl:=by simpa using hE
   have nD:=tZ w q k c l P H.o j d (by rw [z];exact hC);rw [aCc (h5.o j d) hC z h0] at nD;clear h0 z;go_wp2_with fail;go_fit nD;rintro e _ ⟨rfl,rfl⟩;go_wp2_with fail;go_round
   case rel=>exact ⟨j+1,by omega,by go_num⟩
   case measure=>simp [intOf];omega
  have h6:j=P.n:=by omega
  subst h6;go_wp2;go_loop [8] (fun v=>∃ j:Nat,j<=P.n/\v=.int .i64 j) (fun v=>P.n - (intOf v).toNat)
  case atStart=>exact ⟨0,by omega,rfl⟩
  case round=>
   clear y;obtain ⟨j,hj,rfl⟩:=hrel
   by_cases y:j<P.n
   ·have h1:=H.o.kind j y;have h7:=h3.o j y;have hE:((P.pg j).cls == -1)=false:=by rw [beq_eq_false_iff_ne];omega
    clear h7;go_wp2_with fail;go_round
    case rel=>exact ⟨j+1,by omega,by go_num⟩
    case measure=>simp [intOf];omega
   go_wp2;exact hR.o _ _ ⟨rfl,rfl⟩
theorem aGY (w:World) (q k c l:Nat) (P:Pl) (h:fA w q k c l P) (h1:P.ok) (cl:Int) (hC:cl<0\/2<cl) :
  Calls prog 243 #[.pointer (some ⟨q,0,none⟩),.int .i64 cl] w fun e w'=>e=.returned (.tuple #[.int .i64 0,.int .i64 1])/\w=w':=by
 refine aF fun R d=>?_
 by_cases y:cl<0
 ·have z:decide (cl<0)=true:=by simpa using y
  go_in;go_wp2;exact d.o _ _ ⟨rfl,rfl⟩
 have z:decide (cl<0)=false:=by simpa using y
 have h0:decide (2<cl)=true:=by simp;omega
 go_in;go_wp2;exact d.o _ _ ⟨rfl,rfl⟩
theorem aGW (w:World) (q k c l:Nat) (P:Pl) (h:fA w q k c l P) (z:P.ok) (cl:Int) :
  Calls prog 243 #[.pointer (some ⟨q,0,none⟩),.int .i64 cl] w fun e w'=>e=.returned (.tuple #[.int .i64 (P.alloc cl).1,.int .i64 (P.alloc cl).2.1])/\fA w' q k c l (P.alloc cl).2.2/\Only [k,c,l] w w':=by
 rcases P.gX cl with y|⟨y,⟨i,d,hp,hb⟩|⟨hn,⟨i,d,hp,hb⟩|hf⟩⟩
 ·rw [Pl.kL y];exact (aGY w q k c l P h z cl y).mono fun e w' ⟨a,b⟩=>⟨a,b▸h,b▸Only.refl _ _⟩
 ·rw [Pl.fQ y d hp hb];exact aEC w q k c l P h z cl y i d hp hb
 ·rw [Pl.iM y hn d hp hb];exact aGX w q k c l P h z cl y hn i d hp hb
 rw [Pl.fU y hn hf];exact (aED w q k c l P h z cl y hn hf).mono fun e w' ⟨a,b⟩=>⟨a,b▸h,b▸Only.refl _ _⟩
set_option maxHeartbeats 1600000
theorem aNN (w:World) (q k c l:Nat) (P:Pl) (h:fA w q k c l P) (a:Int) :
  Calls prog 273 #[.pointer (some ⟨q,0,none⟩),.int .i64 a] w (aO w (.bool (P.addr a))):=by
 refine aF fun R d=>?_;obtain ⟨c1,c2,c3,z0,z1,z2,_⟩:=h.facts;have e:=h.n24;have hb:Hid (P.addr a=(decide (0<=a) && decide (a<(P.n*16:Nat)))):=by
  show _=_;unfold Pl.addr;congr 1;rw [decide_eq_decide];omega
 by_cases y:0<=a
 ·go_in;go_wp2;exact d.o _ _ ⟨by rw [hb.o];simp [y],rfl⟩
 have z:decide (0<=a)=false:=by simpa using y
 have H0:=aA y;clear y;go_in;go_wp2;exact d.o _ _ ⟨by rw [hb.o,z];rfl,rfl⟩
structure Adr (P:Pl) (A i j:Nat):Prop where
 hi:i=A / 16
 hj:j=A % 16
 hin:i<P.n
 aBa:j<16
 hA:A=i*16+j
theorem aLl {P:Pl} {A:Nat} (y:A<16*P.n):∃ i j,Adr P A i j:=⟨_,_,rfl,rfl,by omega,by omega,by omega⟩
theorem aGV (w:World) (q k c l:Nat) (P:Pl) (h:fA w q k c l P) (h5:P.ok) (a:Int) :
  Calls prog 270 #[.pointer (some ⟨q,0,none⟩),.int .i64 a] w (aO w (.tuple #[.int .i64 (P.begin a).1,.int .i64 (P.begin a).2])):=by
 refine aF fun R hR=>?_;obtain ⟨c1,c2,c3,z0,z1,z2,_⟩:=h.facts;have x5:=h.n24;have d:=aNN w q k c l P h a
 cases ha:P.addr a with
 | false=>
  rw [Pl.oK ha] at hR;rw [ha] at d;clear ha;go_in;go_wp2_with fail;go_fit d;rintro e _ ⟨rfl,rfl⟩;go_wp2;exact hR.o _ _ ⟨rfl,rfl⟩
 | true=>
  rw [ha] at d;obtain ⟨A,rfl⟩:∃ A:Nat,a=A:=⟨a.toNat,by have:=Pl.iO.1 ha;omega⟩;have hA:A<16*P.n:=by have:=Pl.iO.1 ha;omega
  obtain ⟨i,j,s⟩:=aLl hA;have hq:(A:Int) / 16=(i:Int):=by have:=s.hi;omega
  have x4:i<24:=by have:=s.hin;omega
  have h9:=h.kind i s.hin
  by_cases hc:(P.pg (A / 16)).cls<0
  ·rw [Pl.jU ha (by simpa using hc)] at hR;have hE:((P.pg i).cls == -1)=true:=by
    have:=(h5 i s.hin).neg.1 (by rw [s.hi];exact hc);simpa using this
   have h7:=s.hin;clear ha hc s;go_in;go_wp2_with fail;go_fit d;rintro e _ ⟨rfl,rfl⟩;go_wp2;exact hR.o _ _ ⟨rfl,rfl⟩
  have hE:((P.pg i).cls == -1)=false:=by
   rw [beq_eq_false_iff_ne,s.hi];omega
  have hC:IsC (P.pg i).cls:=by
   rcases (h5 i s.hin).cls with h1|h1
   ·rw [s.hi] at h1;omega
   exact h1
  have hcut:=fun wx=>aAd wx _ hC;have h6:=hC.sz;have h0:=hC.div s.aBa;obtain ⟨z,hz⟩:∃ z,z=bsz (P.pg i).cls:=⟨_,rfl⟩;obtain ⟨x,hx⟩:∃ x,x=j / z:=⟨_,rfl⟩;obtain ⟨m,hm⟩:∃ m,m=x*z:=⟨_,rfl⟩;have h4:(P.pg i).live m=(P.pg i).used x:=by rw [hm,hz];exact Pg.uM hC x
  rw [<-hz,<-hx,<-hm] at h0;have x7:m<=j:=h0.2.1;have x2:(A:Int) % (z:Int)=((j - m:Nat):Int):=by
   have e1:A % z=j - m:=by
    rw [s.hA];have h2:=h0.2.2.2;rw [<-h2];rcases hC.facts with ⟨e,_⟩|⟨e,_⟩|⟨e,_⟩<;>(rw [hz,e];omega)
   rw [<-e1];simp
  have y:=h.live i s.hin m (by have:=s.aBa;omega);rw [h4] at y;have x1:((A:Int) - ((j - m:Nat):Int))=((i*16+m:Nat):Int):=by have:=s.hA;omega
  have y0:((z:Int) == 0)=false:=by simp;omega
  have x9:0<z:=by omega
  rw [<-hz] at hcut;have h7:=s.hin;have x3:m<16:=by have:=s.aBa;omega
  have h3:=s.hA;have x8:IntKind.i64.wrap ((i*16+m:Nat):Int)=((i*16+m:Nat):Int):=IntWalk.i64_in _ (by omega);have x6:j - m<=A:=by omega
  cases hu:(P.pg i).used x with
  | true=>
   have e1:P.begin (A:Int)=(((i*16+m:Nat):Int),0):=by
    rw [Pl.kK ha (by simpa using hc) (by have h1:=hu;rw [hx,hz,s.hj,s.hi] at h1;simpa using h1),hm,hx,hz,s.hj,s.hi];simp
   rw [e1] at hR;rw [hu] at y;have h8:=aA h3;clear ha hc s hu h0 h4 hm hx hz h6 hC e1 h3;go_in;go_wp2_with fail;go_fit d;rintro e _ ⟨rfl,rfl⟩;go_wp2_with fail;refine (hcut _).mono ?_;rintro e _ ⟨rfl,rfl⟩;go_wp2;exact hR.o _ _ ⟨rfl,rfl⟩
  | false=>
   have e1:P.begin (A:Int)=(0,3):=Pl.tH ha (by simpa using hc) (by have h1:=hu;rw [hx,hz,s.hj,s.hi] at h1;simpa using h1);rw [e1] at hR;rw [hu] at y;have h8:=aA h3;clear ha hc s hu h0 h4 hm hx hz h6 hC e1 h3;go_in;go_wp2_with fail;go_fit d;rintro e _ ⟨rfl,rfl⟩;go_wp2_with fail;refine (hcut _).mono ?_;rintro e _ ⟨rfl,rfl⟩;go_wp2;exact hR.o _ _ ⟨rfl,rfl⟩
theorem nO (w:World) (q k c l:Nat) (P:Pl) (h:fA w q k c l P) (h2:P.ok) (a n:Int) :
  Calls prog 244 #[.pointer (some ⟨q,0,none⟩),.int .i64 a,.int .i64 n] w fun e w'=>
   e=.returned (.int .i64 (P.setCell a n).1)/\fA w' q k c l (P.setCell a n).2/\Only [k,c,l] w w':=by
 refine aF fun R hR=>?_;have y:=aGV w q k c l P h h2 a
 by_cases z:(P.begin a).2=0
 ·have hb:=Pl.mQ z;obtain ⟨A,rfl⟩:∃ A:Nat,a=A:=⟨a.toNat,hb.2.2.2.2.2.2⟩;have hA:A<16*P.n:=by have:=Pl.iO.1 hb.1;omega
  obtain ⟨i,j,s⟩:=aLl hA;have e1:P.setCell (A:Int) n=(0,P.set i { P.pg i with cell:=up (P.pg i).cell j n }):=by unfold Pl.setCell;rw [if_pos z,s.hj,s.hi];rfl
  rw [e1] at hR;rw [z] at y;obtain ⟨c1,c2,c3,z0,z1,z2,f0,f1,f2,_⟩:=h.facts;have h3:=h.n24;have d:=h.cells i s.hin j s.aBa;have h1:=aA (h.setCell s.hin s.aBa n);rw [<-s.hA] at d h1;have h4:A<P.n*16:=by omega
  generalize (P.begin (A:Int)).1=B at y;clear e1 z hb h s;go_in;go_wp2_with fail;go_fit y;rintro e _ ⟨rfl,rfl⟩;go_wp2;exact hR.o _ _ ⟨rfl,h1.o,(Only.refl _ _).set (by simp) _⟩
 have e1:P.setCell a n=((P.begin a).2,P):=by unfold Pl.setCell;rw [if_neg z]
 rw [e1] at hR;have h5:((P.begin a).2 != 0)=true:=by rw [bne_iff_ne];exact z
 clear z e1;go_in;go_wp2_with fail;go_fit y;rintro e _ ⟨rfl,rfl⟩;go_wp2;exact hR.o _ _ ⟨rfl,h,Only.refl _ _⟩
theorem uK {P:Pl} (h0:P.ok) {A i j:Nat} (s:Adr P A i j):(P.pg i).live j=true↔(P.begin (A:Int)).2=0/\(P.begin (A:Int)).1=A:=by
 have hA:A<16*P.n:=by have:=s.hA;have:=s.hin;have:=s.aBa;omega
 have ha:P.addr (A:Int)=true:=Pl.iO.2 ⟨by omega,by omega⟩;rcases (h0 i s.hin).cls with z|hC
 ·rw [Pg.oC z,Pl.jU ha (by show (P.pg (A / 16)).cls<0;rw [<-s.hi,z];decide)];simp
 have z:¬ (P.pg (A / 16)).cls<0:=by rw [<-s.hi];rcases hC with e|e|e<;>omega
 rw [Pg.aBT hC];have h5:=hC.div s.aBa;constructor
 ·rintro ⟨d,y⟩;rw [Pl.kK ha (by simpa using z) (by rw [s.hi,s.hj] at y;simpa using y)];refine ⟨rfl,?_⟩;show ((A / 16*16+A % 16 / bsz (P.pg (A / 16)).cls*bsz (P.pg (A / 16)).cls:Nat):Int)=A;rw [<-s.hi,<-s.hj,<-d,s.hA]
 rintro ⟨d,y⟩;have hb:=Pl.mQ d;refine ⟨?_,by rw [s.hi,s.hj];exact hb.2.2.1⟩;have h3:=hb.2.2.2.1;rw [y] at h3;have h4:A=A / 16*16+A % 16 / bsz (P.pg (A / 16)).cls*bsz (P.pg (A / 16)).cls:=by exact_mod_cast h3
 rw [<-s.hi,<-s.hj] at h4;have:=s.hA;omega
theorem aCM (w:World) (q k c l:Nat) (P:Pl) (h:fA w q k c l P) (x6:P.ok) (a:Int) :
  Calls prog 254 #[.pointer (some ⟨q,0,none⟩),.int .i64 a] w fun e w'=>
   e=.returned (.int .i64 (P.free a).1)/\fA w' q k c l (P.free a).2/\Only [k,c,l] w w':=by
 refine aF fun R hR=>?_;obtain ⟨c1,c2,c3,z0,z1,z2,f0,f1,f2,_⟩:=h.facts;have y8:=h.n24;have h5:=aNN w q k c l P h a
 cases ha:P.addr a with
 | false=>
  have e1:P.free a=(1,P):=by unfold Pl.free;rw [Pl.oK ha];rfl
  rw [e1] at hR;rw [ha] at h5;clear ha e1;go_in;go_wp2_with fail;go_fit h5;rintro e _ ⟨rfl,rfl⟩;go_wp2;exact hR.o _ _ ⟨rfl,h,Only.refl _ _⟩
 | true=>
  rw [ha] at h5;obtain ⟨A,rfl⟩:∃ A:Nat,a=A:=⟨a.toNat,by have:=Pl.iO.1 ha;omega⟩;have hA:A<16*P.n:=by have:=Pl.iO.1 ha;omega
  obtain ⟨i,j,s⟩:=aLl hA;have h3:=h.live i s.hin j s.aBa;rw [<-s.hA] at h3;have y9:A<P.n*16:=by omega
  have hq:(A:Int) / 16=(i:Int):=by have:=s.hi;omega
  have x1:=uK x6 s;have y7:i<24:=by have:=s.hin;omega
  have x9:=s.hin;have z3:=s.aBa
  cases z:(P.pg i).live j with
  | false=>
   have e1:P.free (A:Int)=(3,P):=by
    unfold Pl.free
    by_cases h0:(P.begin (A:Int)).2=0
    ·rw [if_pos h0,if_neg (fun d=>by rw [x1.2 ⟨h0,d⟩] at z;cases z)]
    rw [if_neg h0];rcases (Pl.aLe h0).2 with d|d
    ·exfalso
     by_cases hc:(P.pg (A / 16)).cls<0
     ·rw [Pl.jU ha (by simpa using hc)] at d;cases d
     cases hu:(P.pg (A / 16)).used (A % 16 / bsz (P.pg (A / 16)).cls) with
     | true=>rw [Pl.kK ha (by simpa using hc) (by simpa using hu)] at d;cases d
     | false=>rw [Pl.tH ha (by simpa using hc) (by simpa using hu)] at d;cases d
    rw [d]
   rw [e1] at hR;rw [z] at h3;clear ha e1 x1 s z;go_in;go_wp2_with fail;go_fit h5;rintro e _ ⟨rfl,rfl⟩;go_wp2;exact hR.o _ _ ⟨rfl,h,Only.refl _ _⟩
  | true=>
   obtain ⟨b1,b2⟩:=x1.1 z;have hC:IsC (P.pg i).cls:=by
    rcases (x6 i s.hin).cls with d|d
    ·rw [Pg.oC d] at z;cases z
    exact d
   have x8:(P.pg i).cls≠-1:=by rcases hC with e|e|e<;>omega
   obtain ⟨x,hx⟩:∃ x,x=j / bsz (P.pg i).cls:=⟨_,rfl⟩;have x5:=(Pg.aBT hC j).1 z;rw [<-hx] at x5;have hrel:Hid ((P.pg i).release x=if cnt (up (P.pg i).used x false) 8=0 then { P.pg i with used:=up (P.pg i).used x false,cls:=-1 } else { P.pg i with used:=up (P.pg i).used x false }):=by
    show _=_;unfold Pg.release;split<;>rfl
   have e1:P.free (A:Int)=(0,P.set i ((P.pg i).release x)):=by
    unfold Pl.free;rw [if_pos b1,if_pos b2,hx,s.hj,s.hi];simp
   rw [e1] at hR;rw [z] at h3;have d:=h.aJl s.hin s.aBa false (up (P.pg i).used x false) (fun y hy=>by rw [Pg.aJV hC x false y,<-x5.1]);have x4:({ P.pg i with used:=up (P.pg i).used x false }:Pg).okw:=.inr ⟨hC,fun y hy=>by
    show up (P.pg i).used x false y=false
    by_cases e:y=x
    ·rw [e,bP]
    rw [aV _ _ e];exact (x6 i s.hin).high x8 y hy⟩
   have h4:=nR _ q k c l _ d i s.hin (by rw [Pl.aP];exact x4);rw [Pl.aP,<-s.hA] at h4;have x7:=d.kind i s.hin;rw [Pl.aP,<-s.hA] at x7;obtain ⟨d1,d2,d3,y0,y1,y2,g0,g1,g2,_⟩:=d.facts;have y5:(P.set i { P.pg i with used:=up (P.pg i).used x false }).n=P.n:=rfl;rw [<-s.hA] at y0 y1 y2 g0;rw [y5] at y0;have H1:=aA d;rw [<-s.hA] at H1;have y6:=h.ne;obtain ⟨n1,n2,n3,n4,n5,n6⟩:=y6;have y3:=aA x4;have x3:Hid (({ P.pg i with used:=up (P.pg i).used x false }:Pg).count=cnt (up (P.pg i).used x false) 8):=rfl;clear ha e1 x1 s z b1 b2 hx x5 d hC x4 g1 g2 x8;generalize y4:({ P.pg i with used:=up (P.pg i).used x false }:Pg).count=cv at h4 x3;clear y4
   cases hz:((cv:Int) == 0)
   ·have h6:¬ cnt (up (P.pg i).used x false) 8=0:=by rw [<-x3.o];simpa using hz
    have HZ:=aA h6;clear h6;go_in;go_wp2_with fail;go_fit h5;rintro e _ ⟨rfl,rfl⟩;go_wp2_with fail;go_fit h4;rintro e _ ⟨rfl,rfl⟩;go_wp2;refine hR.o _ _ ⟨rfl,?_,(Only.refl _ _).set (by simp) _⟩;rw [hrel.o,if_neg HZ.o];exact H1.o
   have h6:cnt (up (P.pg i).used x false) 8=0:=by rw [<-x3.o];simpa using hz
   have x2:=qL.1 h6;have h7:∀ y,up (P.pg i).used x false y=false:=by
    intro y;rcases y3.o with ⟨e1,e2⟩|⟨e1,e2⟩
    ·exact e2 y
    by_cases hy:y<8
    ·exact x2 y hy
    have h8:=e1.sz;have h9:=e2 y (by omega);exact h9
   have h2:=H1.o.setKind (i:=i) x9 (-1) (fun y hy=>by
    rw [Pl.aP];rw [Pg.oC rfl];unfold Pg.live;show false=(_ && _ && up (P.pg i).used x false _);rw [h7];simp)
   rw [Pl.aP,Pl.set_set] at h2;have H2:=aA h2;have HZ:=aA h6;clear h6 x2 h7 h2;go_in;go_wp2_with fail;go_fit h5;rintro e _ ⟨rfl,rfl⟩;go_wp2_with fail;go_fit h4;rintro e _ ⟨rfl,rfl⟩;go_wp2;refine hR.o _ _ ⟨rfl,?_,((Only.refl _ _).set (by simp) _).set (by simp) _⟩;rw [hrel.o,if_pos HZ.o];exact H2.o
end Go.Proofs.YthflghdaejbdkaaGreat
namespace Go.Proofs.YthflghdaejbdkaaGreat
open _root_.Go.Proofs.Tryz (prog)
def Pl.oD (P:Pl) (x:Nat):Bool:=decide ((P.begin (x:Int)).2=0/\(P.begin (x:Int)).1=(x:Int))
theorem Pl.aFW {P:Pl} (h:P.ok) {i j:Nat} (d:i<P.n) (e:j<16):P.oD (16*i+j)=(P.pg i).live j:=by
 have s:Adr P (16*i+j) i j:=⟨by omega,by omega,d,e,by omega⟩;have:=uK h s
 cases y:(P.pg i).live j with
 | true=>unfold Pl.oD;rw [decide_eq_true (this.1 y)]
 | false=>
  unfold Pl.oD;rw [decide_eq_false];intro z;rw [this.2 z] at y;cases y
theorem aPk (u:Nat->Bool) (a b:Nat):cnt u (a+b)=cnt u a+cnt (fun j=>u (a+j)) b:=by
 induction b with
 | zero=>rfl
 | succ b d=>
  have y:cnt u (a+(b+1))=cnt u (a+b)+if u (a+b) then 1 else 0:=rfl;have z:cnt (fun j=>u (a+j)) (b+1)=cnt (fun j=>u (a+j)) b+if u (a+b) then 1 else 0:=rfl;rw [y,z,d];omega
theorem Pl.zB {P:Pl} (h:P.ok):cnt P.oD (16*P.n)=iQ (fun i=>(P.pg i).count) P.n:=by
 have y:∀ k,k<=P.n->cnt P.oD (16*k)=iQ (fun i=>(P.pg i).count) k:=by
  intro k
  induction k with
  | zero=>intro _;rfl
  | succ k d=>
   intro e;rw [Nat.mul_succ,aPk,d (by omega)];show _=_+(P.pg k).count;rw [gG (v:=(P.pg k).live) (fun j z=>Pl.aFW h (by omega) z),Pg.aFV (h k (by omega)).w]
 exact y P.n (Nat.le_refl _)
theorem Pl.aLE {P:Pl} (h:P.ok):P.aCx 0 P.n+P.aCx 1 P.n+P.aCx 2 P.n=cnt P.oD (16*P.n):=by
 rw [Pl.zB h];show iQ (P.aEo 0) P.n+iQ (P.aEo 1) P.n+iQ (P.aEo 2) P.n=_;rw [<-wM,<-wM];refine lF fun i y=>?_;unfold Pl.aEo;rcases (h i y).cls with e|e|e|e
 ·rw [(h i y).aId e];simp
 ·simp [e]
 ·simp [e]
 simp [e]
def Pl.lives (P:Pl) (k:Nat):List Nat:=(List.range k).filter P.oD
theorem Pl.aHs (P:Pl) (k:Nat):P.lives (k+1)=P.lives k ++ if P.oD k then [k] else []:=by
 unfold Pl.lives;rw [List.range_succ,List.filter_append];congr 1
 cases h:P.oD k<;>simp [h]
theorem Pl.aJU (P:Pl) (k:Nat):(P.lives k).length=cnt P.oD k:=by
 induction k with
 | zero=>rfl
 | succ k y=>
  rw [Pl.aHs,List.length_append,y];show _=cnt P.oD k+_
  cases h:P.oD k<;>simp
theorem Pl.aDn {P:Pl} {k x:Nat}:x∈P.lives k↔x<k/\P.oD x=true:=by simp [Pl.lives]
theorem Pl.aRB {P:Pl} (h:P.ok) (hn:∀ y,y<16*P.n->P.oD y=false):P.aSG P.n=P.n/\P.aRX P.n=0/\P.aSF P.n=0:=by
 have hf:∀ i,i<P.n->(P.pg i).cls = -1:=by
  intro i z;rcases (h i z).cls with h1|d
  ·exact h1
  exfalso;have h0:(P.pg i).cls≠-1:=by rcases d with e|e|e<;>omega
  obtain ⟨k,hk,hu⟩:=(h i z).some1 h0;have hb:=d.blk hk;have hl:=Pg.uM d k;have:=hn (16*i+k*bsz (P.pg i).cls) (by have:=d.sz;omega);rw [Pl.aFW h z (by have:=d.sz;omega),hl,hu] at this
  cases this
 refine ⟨?_,nJ.2 fun i z=>?_,nJ.2 fun i z=>?_⟩
 ·have h2:∀ k,k<=P.n->iQ P.aKK k=k:=by
   intro k
   induction k with
   | zero=>intro _;rfl
   | succ k ih=>
    intro hk;show iQ P.aKK k+P.aKK k=k+1;rw [ih (by omega)];unfold Pl.aKK;rw [if_pos (by rw [hf k (by omega)];decide)]
  exact h2 P.n (Nat.le_refl _)
 ·unfold Pl.aQf;rw [if_neg (by rw [hf i z];simp)]
 unfold Pl.aQQ;rw [if_neg (by rw [hf i z];simp)]
structure Pl.Holds (P:Pl) (c:Int) (i k:Nat) (v:Nat->Int):Prop where
 hi:i<P.n
 cls:(P.pg i).cls=c
 kb:k<bpt c
 used:(P.pg i).used k=true
 cell:∀ x,x<bsz c->(P.pg i).cell (k*bsz c+x)=v x
theorem Pl.Holds.aQ {P:Pl} {c:Int} {i k:Nat} {v:Nat->Int} (h:P.Holds c i k v) {j:Nat} (y:i≠j) (x:Pg):(P.set j x).Holds c i k v:=by
 have e:(P.set j x).pg i=P.pg i:=Pl.aQ _ _ y;exact ⟨h.hi,by rw [e];exact h.cls,h.kb,by rw [e];exact h.used,by rw [e];exact h.cell⟩
theorem Pl.Holds.aP {P:Pl} {c:Int} {i k:Nat} {v:Nat->Int} (h:P.Holds c i k v) (x:Pg) (d:x.cls=c) (h2:x.used k=true) (h3:∀ y,y<bsz c->x.cell (k*bsz c+y)=(P.pg i).cell (k*bsz c+y)):(P.set i x).Holds c i k v:=by
 have e:(P.set i x).pg i=x:=Pl.aP _ _ _;exact ⟨h.hi,by rw [e];exact d,h.kb,by rw [e];exact h2,fun y z=>by rw [e,h3 y z];exact h.cell y z⟩
theorem Pl.Holds.take {P:Pl} {c:Int} (d:IsC c) {i k:Nat} {v:Nat->Int} (h:P.Holds c i k v) {l:Nat} (e:l≠k) (f:Nat->Int):(P.set i ((P.pg i).take c l f)).Holds c i k v:=by
 refine h.aP _ rfl ?_ (fun y hy=>?_)
 ·show up (P.pg i).used l true k=true;rw [aV _ _ e.symm];exact h.used
 show (if _ then _ else _)=_;rw [if_neg];intro z;apply e;have h4:=d.aOG z.1 z.2;have h5:=d.aOG (k:=k) (j:=k*bsz c+y) (by omega) (by omega);omega
theorem Pl.Holds.release {P:Pl} {c:Int} (e:IsC c) {i k:Nat} {v:Nat->Int} (h:P.Holds c i k v) {l:Nat} (z:l≠k):(P.set i ((P.pg i).release l)).Holds c i k v:=by
 have h1:=e.sz;have hk:=h.kb;have hn:¬ cnt (up (P.pg i).used l false) 8=0:=by
  intro d;have:=qL.1 d k (by omega);rw [aV _ _ z.symm,h.used] at this
  cases this
 refine h.aP _ ?_ ?_ (fun y hy=>rfl)
 ·unfold Pg.release;simp only [hn,if_false];exact h.cls
 show up (P.pg i).used l false k=true;rw [aV _ _ z.symm];exact h.used
theorem Pl.Holds.alloc {P:Pl} (h1:P.ok) {c:Int} (hc:IsC c) {i k:Nat} {v:Nat->Int} (h:P.Holds c i k v) (cl:Int):(P.alloc cl).2.2.Holds c i k v:=by
 rcases P.gX cl with hb|⟨y,⟨j,d,z,hb⟩|⟨hn,⟨j,d,z,hb⟩|hf⟩⟩
 ·rw [Pl.kL hb];exact h
 ·rw [Pl.fQ y d z hb]
  by_cases e:i=j
  ·subst e;have he:=(Pg.bF.1 z).1;have h0:cl=c:=he.symm.trans h.cls;subst h0;refine h.take hc (fun e=>?_) _;have:=((h1 i d).gap hc z).2;rw [e,h.used] at this;cases this
  exact h.aQ e _
 ·rw [Pl.iM y hn d z hb];refine h.aQ (fun e=>?_) _;subst e;rw [h.cls] at z;rcases hc with e|e|e<;>omega
 rw [Pl.fU y hn hf];exact h
theorem Pl.Holds.free {P:Pl} {c:Int} (hc:IsC c) {i k:Nat} {v:Nat->Int} (h:P.Holds c i k v) {a:Int} (ha:a≠((16*i+k*bsz c:Nat):Int)):(P.free a).2.Holds c i k v:=by
 unfold Pl.free;split
 ·rename_i z;have hb:=Pl.mQ z;split
  ·rename_i d
   by_cases e:i=a.toNat / 16
   ·rw [<-e] at hb ⊢;refine h.release hc (fun y=>ha ?_);have h3:=hb.2.2.2.1;rw [d,y,h.cls] at h3;omega
   exact h.aQ e _
  exact h
 exact h
theorem Pl.Holds.setCell {P:Pl} {c:Int} {i k:Nat} {v:Nat->Int} (h:P.Holds c i k v) {a n:Int} (ha:a<((16*i+k*bsz c:Nat):Int)\/((16*i+k*bsz c+bsz c:Nat):Int)<=a):(P.setCell a n).2.Holds c i k v:=by
 unfold Pl.setCell;split
 ·rename_i z;have hb:=Pl.mQ z
  by_cases e:i=a.toNat / 16
  ·rw [<-e];refine h.aP _ h.cls h.used (fun y hy=>?_);show up (P.pg i).cell (a.toNat % 16) n (k*bsz c+y)=_;rw [aV];have d:=hb.2.2.2.2.2.2;omega
  exact h.aQ e _
 exact h
theorem Pl.Holds.moved {P:Pl} (h0:P.ok) {c:Int} (hc:IsC c) {i k:Nat} {v:Nat->Int} (h:P.Holds c i k v) {f t:Nat} (z:P.Pair f t) :
  (i=f/\k=(P.pg f).top (P.pg f).cls/\(P.moved f t).Holds c t ((P.pg t).gap c) v)\/((i≠f\/k≠(P.pg f).top (P.pg f).cls)/\(P.moved f t).Holds c i k v):=by
 have h4:(P.pg f).cls≠-1:=by rcases z.c with e|e|e<;>omega
 have h6:=(h0 f z.hi).top h4;have nD:=(h0 t z.hj).gap z.c z.pj
 by_cases e:i=f/\k=(P.pg f).top (P.pg f).cls
 ·obtain ⟨rfl,hk⟩:=e;refine .inl ⟨rfl,hk,?_⟩;have y:=h.cls;rw [y] at hk nD;have h5:(P.pg t).cls=c:=z.same.trans y;have e1:(P.moved i t).pg t=(P.pg t).take c ((P.pg t).gap c) fun x=>(P.pg i).cell (k*bsz c+x):=by
   unfold Pl.moved;rw [Pl.aQ _ _ z.ne.symm,Pl.aP,y,h5,<-hk]
  refine ⟨z.hj,by rw [e1];rfl,nD.1,by rw [e1];exact bP _ _ _,fun x hx=>?_⟩;rw [e1];show (if _ then _ else _)=_;rw [if_pos ⟨by omega,by omega⟩,show (P.pg t).gap c*bsz c+x - (P.pg t).gap c*bsz c=x by omega];exact h.cell x hx
 have e':i≠f\/k≠(P.pg f).top (P.pg f).cls:=by
  by_cases d:i=f
  ·exact .inr (fun e3=>e ⟨d,e3⟩)
  exact .inl d
 refine .inr ⟨e',?_⟩;unfold Pl.moved;have h1:(P.set t ((P.pg t).take (P.pg f).cls ((P.pg t).gap (P.pg t).cls) fun x=>(P.pg f).cell ((P.pg f).top (P.pg f).cls*bsz (P.pg f).cls+x))).Holds c i k v:=by
  by_cases d:i=t
  ·subst d;have y:(P.pg f).cls=c:=z.same.symm.trans h.cls;rw [y] at nD;rw [y,h.cls];refine h.take hc (fun e3=>?_) _;rw [e3,h.used] at nD
   cases nD.2
  exact h.aQ d _
 by_cases d:i=f
 ·subst d;have e3:(P.set t ((P.pg t).take (P.pg i).cls ((P.pg t).gap (P.pg t).cls) fun x=>(P.pg i).cell ((P.pg i).top (P.pg i).cls*bsz (P.pg i).cls+x))).pg i=P.pg i:=Pl.aQ _ _ z.ne;have h2:=h1.release hc (l:=(P.pg i).top (P.pg i).cls) (by rcases e' with h3|h3;exact absurd rfl h3;exact h3.symm);rw [e3] at h2;exact h2
 exact h1.aQ d _
theorem Pl.Holds.tells {P:Pl} {c:Int} (hc:IsC c) {i k:Nat} {v:Nat->Int} (h:P.Holds c i k v) {x:Nat} (hx:x<bsz c) :
  P.begin ((16*i+k*bsz c+x:Nat):Int)=(((16*i+k*bsz c:Nat):Int),0)/\P.cell ((16*i+k*bsz c+x:Nat):Int)=(v x,0):=by
 have hb:=hc.blk h.kb;have hi:=h.hi;obtain ⟨A,hA⟩:∃ A,A=16*i+k*bsz c+x:=⟨_,rfl⟩;have d:A / 16=i:=by omega
 have h2:A % 16=k*bsz c+x:=by omega
 have h3:(k*bsz c+x) / bsz c=k:=hc.aOG (by omega) (by omega);have y:=h.cls;have ha:P.addr (A:Int)=true:=Pl.iO.2 ⟨by omega,by omega⟩;have z:P.begin (A:Int)=(((16*i+k*bsz c:Nat):Int),0):=by
  rw [Pl.kK ha (by show ¬ (P.pg (A / 16)).cls<0;rw [d,y];rcases hc with e|e|e<;>omega) (by show (P.pg (A / 16)).used (A % 16 / bsz (P.pg (A / 16)).cls)=true;rw [d,h2,y,h3];exact h.used)]
  show (((A / 16*16+A % 16 / bsz (P.pg (A / 16)).cls*bsz (P.pg (A / 16)).cls:Nat):Int),(0:Int))=_;rw [d,h2,y,h3,Nat.mul_comm i 16]
 rw [<-hA];refine ⟨z,?_⟩;unfold Pl.cell;rw [z];simp only [if_true];show ((P.pg (A / 16)).cell (A % 16),(0:Int))=_;rw [d,h2,h.cell x hx]
set_option linter.unusedVariables false
theorem Pg.take_holds {P:Pl} {c:Int} (d:IsC c) {i k:Nat} (y:i<P.n) (z:k<bpt c):(P.set i ((P.pg i).take c k fun _=>0)).Holds c i k (fun _=>0):=by
 refine ⟨y,?_,z,?_,fun x hx=>?_⟩
 ·rw [Pl.aP];rfl
 ·rw [Pl.aP];exact bP _ _ _
 rw [Pl.aP];show (if k*bsz c<=k*bsz c+x/\k*bsz c+x<k*bsz c+bsz c then (0:Int) else _)=0;rw [if_pos ⟨by omega,by omega⟩]
theorem Pl.aFt {P:Pl} (h:P.ok) {c:Int} (y:IsC c) (e:(P.alloc c).2.1=0) :
  ∃ i k,(P.alloc c).1=((16*i+k*bsz c:Nat):Int)/\(P.alloc c).2.2.Holds c i k (fun _=>0):=by
 have h0:=y.sz;rcases P.gX c with hb|⟨_,⟨i,z,d,hb⟩|⟨hn,⟨i,z,d,hb⟩|hf⟩⟩
 ·exact absurd hb (uQ.2 y)
 ·have hg:=(h i z).gap y d;rw [Pl.fQ y z d hb];exact ⟨i,(P.pg i).gap c,rfl,Pg.take_holds y z hg.1⟩
 ·rw [Pl.iM y hn z d hb];exact ⟨i,0,by simp,Pg.take_holds y z (by omega)⟩
 rw [Pl.fU y hn hf] at e
 cases e
theorem Pl.Holds.put {P:Pl} {c:Int} (d:IsC c) {i k:Nat} {v:Nat->Int} (h:P.Holds c i k v) {x:Nat} (hx:x<bsz c) (n:Int) :
  (P.setCell ((16*i+k*bsz c+x:Nat):Int) n).1=0/\(P.setCell ((16*i+k*bsz c+x:Nat):Int) n).2.Holds c i k (up v x n):=by
 have ht:=(h.tells d hx).1;have hb:=d.blk h.kb;obtain ⟨A,hA⟩:∃ A,A=16*i+k*bsz c+x:=⟨_,rfl⟩;rw [<-hA] at ht ⊢;have h1:A / 16=i:=by omega
 have h2:A % 16=k*bsz c+x:=by omega
 have e:P.setCell (A:Int) n=(0,P.set i { P.pg i with cell:=up (P.pg i).cell (k*bsz c+x) n }):=by
  unfold Pl.setCell;rw [ht];simp only [if_true];rw [show (A:Int).toNat=A from rfl,h1,h2]
 rw [e];refine ⟨rfl,h.hi,?_,h.kb,?_,fun y hy=>?_⟩
 ·show ((P.set i _).pg i).cls=c;rw [Pl.aP];exact h.cls
 ·show ((P.set i _).pg i).used k=true;rw [Pl.aP];exact h.used
 show ((P.set i _).pg i).cell (k*bsz c+y)=_;rw [Pl.aP];show up (P.pg i).cell (k*bsz c+x) n (k*bsz c+y)=up v x n y
 by_cases z:y=x
 ·subst z;rw [bP,bP]
 rw [aV _ _ (by omega),aV _ _ z,h.cell y hy]
theorem Pl.Holds.move {P:Pl} (h0:P.ok) {c:Int} (hc:IsC c) {i k:Nat} {v:Nat->Int} (h:P.Holds c i k v) :
  (P.move.2.2.1=0/\P.move.1=((16*i+k*bsz c:Nat):Int)/\∃ i' k',P.move.2.1=((16*i'+k'*bsz c:Nat):Int)/\P.move.2.2.2.Holds c i' k' v)\/
  (¬ (P.move.2.2.1=0/\P.move.1=((16*i+k*bsz c:Nat):Int))/\P.move.2.2.2.Holds c i k v):=by
 cases hp:P.pair with
 | none=>
  rw [Pl.dF hp];exact .inr ⟨fun d=>by have:=d.1;simp at this,h⟩
 | some x=>
  obtain ⟨f,t⟩:=x;have y:=Pl.eH hp;rw [Pl.dK hp];rcases h.moved h0 hc y with ⟨rfl,z,d⟩|⟨z,d⟩
  ·refine .inl ⟨rfl,?_,t,(P.pg t).gap c,?_,d⟩
   ·show ((16*i+(P.pg i).top (P.pg i).cls*bsz (P.pg i).cls:Nat):Int)=_;rw [<-z,h.cls]
   show ((16*t+(P.pg t).gap (P.pg t).cls*bsz (P.pg i).cls:Nat):Int)=_;rw [y.same,h.cls]
  refine .inr ⟨fun h3=>?_,d⟩;have h4:16*f+(P.pg f).top (P.pg f).cls*bsz (P.pg f).cls=16*i+k*bsz c:=Int.ofNat.inj h3.2;have h6:(P.pg f).cls≠-1:=by rcases y.c with e|e|e<;>omega
  have b1:=y.c.blk ((h0 f y.hi).top h6).1;have b2:=hc.blk h.kb;have s1:=y.c.sz;have s2:=hc.sz;have h5:i=f:=by omega
  subst h5;rw [h.cls] at h4 z;rcases z with z|z
  ·exact z rfl
  exact z (hc.blocks (by omega))
theorem Pl.Holds.upto {P:Pl} {c:Int} {i k:Nat} {v y:Nat->Int} (h:P.Holds c i k v) (e:∀ x,x<bsz c->y x=v x):P.Holds c i k y:=
 ⟨h.hi,h.cls,h.kb,h.used,fun x hx=>by rw [h.cell x hx,e x hx]⟩
end Go.Proofs.YthflghdaejbdkaaGreat
namespace Go.Proofs.YthflghdaejbdkaaGreat
open _root_.Go.Proofs.Tryz (prog)
def gI (l:List Int) (i:Nat):Int:=l[i]?.getD 0
structure QSt where
 cells:List Int
 head:Nat
 tail:Nat
 put:Nat
 take:Nat
 word:Int
 taken:Int
def QSt.n (s:QSt):Nat:=s.cells.length
def QSt.nx (s:QSt) (i:Nat):Nat:=(i+1) % s.cells.length
