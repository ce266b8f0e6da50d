/- Lemmas of this claim. -/
import Derived.Test.YthflghdaejbdkaaGreatXcRBlock
namespace Go.Proofs.YthflghdaejbdkaaGreat
def Pl.nR (P:Pl) (x:Nat):Bool:=decide ((P.begin (x:Int)).2=0/\(P.begin (x:Int)).1=(x:Int))
theorem Pl.aFM {P:Pl} (h:P.ok) {i j:Nat} (d:i<P.n) (e:j<16):P.nR (16*i+j)=(P.pg i).live j:=by
 have s:Adr P (16*i+j) i j:=⟨by omega,by omega,d,e,by omega⟩;have:=tZ h s
 cases y:(P.pg i).live j with
 | true=>unfold Pl.nR;rw [decide_eq_true (this.1 y)]
 | false=>
  unfold Pl.nR;rw [decide_eq_false];intro z;rw [this.2 z] at y;cases y
theorem aPc (u:Nat->Bool) (a b:Nat):cnt u (a+b)=cnt u a+cnt (fun j=>u (a+j)) b:=by
 induction b with
 | zero=>rfl
 | succ b d=>
  have y:cnt u (a+(b+1))=cnt u (a+b)+if u (a+b) then 1 else 0:=rfl;have z:cnt (fun j=>u (a+j)) (b+1)=cnt (fun j=>u (a+j)) b+if u (a+b) then 1 else 0:=rfl;rw [y,z,d];omega
theorem Pl.yS {P:Pl} (h:P.ok):cnt P.nR (16*P.n)=jE (fun i=>(P.pg i).count) P.n:=by
 have y:∀ k,k<=P.n->cnt P.nR (16*k)=jE (fun i=>(P.pg i).count) k:=by
  intro k
  induction k with
  | zero=>intro _;rfl
  | succ k d=>
   intro e;rw [Nat.mul_succ,aPc,d (by omega)];show _=_+(P.pg k).count;rw [fG (v:=(P.pg k).live) (fun j z=>Pl.aFM h (by omega) z),Pg.aFL (h k (by omega)).w]
 exact y P.n (Nat.le_refl _)
theorem Pl.aLs {P:Pl} (h:P.ok):P.aCi 0 P.n+P.aCi 1 P.n+P.aCi 2 P.n=cnt P.nR (16*P.n):=by
 rw [Pl.yS h];show jE (P.aEf 0) P.n+jE (P.aEf 1) P.n+jE (P.aEf 2) P.n=_;rw [<-wG,<-wG];refine oC fun i y=>?_;unfold Pl.aEf;rcases (h i y).cls with e|e|e|e
 ·rw [(h i y).aHV e];simp
 ·simp [e]
 ·simp [e]
 simp [e]
def Pl.lives (P:Pl) (k:Nat):List Nat:=(List.range k).filter P.nR
theorem Pl.aHn (P:Pl) (k:Nat):P.lives (k+1)=P.lives k ++ if P.nR k then [k] else []:=by
 unfold Pl.lives;rw [List.range_succ,List.filter_append];congr 1
 cases h:P.nR k<;>simp [h]
theorem Pl.aJP (P:Pl) (k:Nat):(P.lives k).length=cnt P.nR k:=by
 induction k with
 | zero=>rfl
 | succ k y=>
  rw [Pl.aHn,List.length_append,y];show _=cnt P.nR k+_
  cases h:P.nR k<;>simp
theorem Pl.aDb {P:Pl} {k x:Nat}:x∈P.lives k↔x<k/\P.nR x=true:=by simp [Pl.lives]
theorem Pl.aRm {P:Pl} (h:P.ok) (hn:∀ y,y<16*P.n->P.nR y=false):P.aSr P.n=P.n/\P.aRK P.n=0/\P.aSq P.n=0:=by
 have hf:∀ i,i<P.n->(P.pg i).cls = -1:=by
  intro i z;rcases (h i z).cls with h1|d
  ·exact h1
  exfalso;have h0:(P.pg i).cls≠-1:=by rcases d with e|e|e<;>omega
  obtain ⟨k,hk,hu⟩:=(h i z).some1 h0;have hb:=d.blk hk;have hl:=Pg.uD d k;have:=hn (16*i+k*bsz (P.pg i).cls) (by have:=d.sz;omega);rw [Pl.aFM h z (by have:=d.sz;omega),hl,hu] at this
  cases this
 refine ⟨?_,mV.2 fun i z=>?_,mV.2 fun i z=>?_⟩
 ·have h2:∀ k,k<=P.n->jE P.aKE k=k:=by
   intro k
   induction k with
   | zero=>intro _;rfl
   | succ k ih=>
    intro hk;show jE P.aKE k+P.aKE k=k+1;rw [ih (by omega)];unfold Pl.aKE;rw [if_pos (by rw [hf k (by omega)];decide)]
  exact h2 P.n (Nat.le_refl _)
 ·unfold Pl.aPU;rw [if_neg (by rw [hf i z];simp)]
 unfold Pl.aQC;rw [if_neg (by rw [hf i z];simp)]
structure Pl.Holds (P:Pl) (c:Int) (i k:Nat) (v:Nat->Int):Prop where
 hi:i<P.n
 cls:(P.pg i).cls=c
 kb:k<bpt c
 used:(P.pg i).used k=true
 cell:∀ x,x<bsz c->(P.pg i).cell (k*bsz c+x)=v x
theorem Pl.Holds.aV {P:Pl} {c:Int} {i k:Nat} {v:Nat->Int} (h:P.Holds c i k v) {j:Nat} (y:i≠j) (x:Pg):(P.set j x).Holds c i k v:=by
 have e:(P.set j x).pg i=P.pg i:=Pl.aV _ _ y;exact ⟨h.hi,by rw [e];exact h.cls,h.kb,by rw [e];exact h.used,by rw [e];exact h.cell⟩
theorem Pl.Holds.aP {P:Pl} {c:Int} {i k:Nat} {v:Nat->Int} (h:P.Holds c i k v) (x:Pg) (d:x.cls=c) (h2:x.used k=true) (h3:∀ y,y<bsz c->x.cell (k*bsz c+y)=(P.pg i).cell (k*bsz c+y)):(P.set i x).Holds c i k v:=by
 have e:(P.set i x).pg i=x:=Pl.aP _ _ _;exact ⟨h.hi,by rw [e];exact d,h.kb,by rw [e];exact h2,fun y z=>by rw [e,h3 y z];exact h.cell y z⟩
theorem Pl.Holds.take {P:Pl} {c:Int} (d:IsC c) {i k:Nat} {v:Nat->Int} (h:P.Holds c i k v) {l:Nat} (e:l≠k) (f:Nat->Int):(P.set i ((P.pg i).take c l f)).Holds c i k v:=by
 refine h.aP _ rfl ?_ (fun y hy=>?_)
 ·show up (P.pg i).used l true k=true;rw [aU _ _ e.symm];exact h.used
 show (if _ then _ else _)=_;rw [if_neg];intro z;apply e;have h4:=d.aOx z.1 z.2;have h5:=d.aOx (k:=k) (j:=k*bsz c+y) (by omega) (by omega);omega
theorem Pl.Holds.release {P:Pl} {c:Int} (e:IsC c) {i k:Nat} {v:Nat->Int} (h:P.Holds c i k v) {l:Nat} (z:l≠k):(P.set i ((P.pg i).release l)).Holds c i k v:=by
 have h1:=e.sz;have hk:=h.kb;have hn:¬ cnt (up (P.pg i).used l false) 8=0:=by
  intro d;have:=qB.1 d k (by omega);rw [aU _ _ z.symm,h.used] at this
  cases this
 refine h.aP _ ?_ ?_ (fun y hy=>rfl)
 ·unfold Pg.release;simp only [hn,if_false];exact h.cls
 show up (P.pg i).used l false k=true;rw [aU _ _ z.symm];exact h.used
theorem Pl.Holds.alloc {P:Pl} (h1:P.ok) {c:Int} (hc:IsC c) {i k:Nat} {v:Nat->Int} (h:P.Holds c i k v) (cl:Int):(P.alloc cl).2.2.Holds c i k v:=by
 rcases P.gW cl with hb|⟨y,⟨j,d,z,hb⟩|⟨hn,⟨j,d,z,hb⟩|hf⟩⟩
 ·rw [Pl.kE hb];exact h
 ·rw [Pl.fQ y d z hb]
  by_cases e:i=j
  ·subst e;have he:=(Pg.dS.1 z).1;have h0:cl=c:=he.symm.trans h.cls;subst h0;refine h.take hc (fun e=>?_) _;have:=((h1 i d).gap hc z).2;rw [e,h.used] at this;cases this
  exact h.aV e _
 ·rw [Pl.iI y hn d z hb];refine h.aV (fun e=>?_) _;subst e;rw [h.cls] at z;rcases hc with e|e|e<;>omega
 rw [Pl.fU y hn hf];exact h
theorem Pl.Holds.free {P:Pl} {c:Int} (hc:IsC c) {i k:Nat} {v:Nat->Int} (h:P.Holds c i k v) {a:Int} (ha:a≠((16*i+k*bsz c:Nat):Int)):(P.free a).2.Holds c i k v:=by
 unfold Pl.free;split
 ·rename_i z;have hb:=Pl.mD z;split
  ·rename_i d
   by_cases e:i=a.toNat / 16
   ·rw [<-e] at hb ⊢;refine h.release hc (fun y=>ha ?_);have h3:=hb.2.2.2.1;rw [d,y,h.cls] at h3;omega
   exact h.aV e _
  exact h
 exact h
theorem Pl.Holds.setCell {P:Pl} {c:Int} {i k:Nat} {v:Nat->Int} (h:P.Holds c i k v) {a n:Int} (ha:a<((16*i+k*bsz c:Nat):Int)\/((16*i+k*bsz c+bsz c:Nat):Int)<=a):(P.setCell a n).2.Holds c i k v:=by
 unfold Pl.setCell;split
 ·rename_i z;have hb:=Pl.mD z
  by_cases e:i=a.toNat / 16
  ·rw [<-e];refine h.aP _ h.cls h.used (fun y hy=>?_);show up (P.pg i).cell (a.toNat % 16) n (k*bsz c+y)=_;rw [aU];have d:=hb.2.2.2.2.2.2;omega
  exact h.aV e _
 exact h
theorem Pl.Holds.moved {P:Pl} (h0:P.ok) {c:Int} (hc:IsC c) {i k:Nat} {v:Nat->Int} (h:P.Holds c i k v) {f t:Nat} (z:P.Pair f t) :
  (i=f/\k=(P.pg f).top (P.pg f).cls/\(P.moved f t).Holds c t ((P.pg t).gap c) v)\/((i≠f\/k≠(P.pg f).top (P.pg f).cls)/\(P.moved f t).Holds c i k v):=by
 have h4:(P.pg f).cls≠-1:=by rcases z.c with e|e|e<;>omega
 have h6:=(h0 f z.hi).top h4;have mM:=(h0 t z.hj).gap z.c z.pj
 by_cases e:i=f/\k=(P.pg f).top (P.pg f).cls
 ·obtain ⟨rfl,hk⟩:=e;refine .inl ⟨rfl,hk,?_⟩;have y:=h.cls;rw [y] at hk mM;have h5:(P.pg t).cls=c:=z.same.trans y;have e1:(P.moved i t).pg t=(P.pg t).take c ((P.pg t).gap c) fun x=>(P.pg i).cell (k*bsz c+x):=by
   unfold Pl.moved;rw [Pl.aV _ _ z.ne.symm,Pl.aP,y,h5,<-hk]
  refine ⟨z.hj,by rw [e1];rfl,mM.1,by rw [e1];exact bM _ _ _,fun x hx=>?_⟩;rw [e1];show (if _ then _ else _)=_;rw [if_pos ⟨by omega,by omega⟩,show (P.pg t).gap c*bsz c+x - (P.pg t).gap c*bsz c=x by omega];exact h.cell x hx
 have e':i≠f\/k≠(P.pg f).top (P.pg f).cls:=by
  by_cases d:i=f
  ·exact .inr (fun e3=>e ⟨d,e3⟩)
  exact .inl d
 refine .inr ⟨e',?_⟩;unfold Pl.moved;have h1:(P.set t ((P.pg t).take (P.pg f).cls ((P.pg t).gap (P.pg t).cls) fun x=>(P.pg f).cell ((P.pg f).top (P.pg f).cls*bsz (P.pg f).cls+x))).Holds c i k v:=by
  by_cases d:i=t
  ·subst d;have y:(P.pg f).cls=c:=z.same.symm.trans h.cls;rw [y] at mM;rw [y,h.cls];refine h.take hc (fun e3=>?_) _;rw [e3,h.used] at mM
   cases mM.2
  exact h.aV d _
 by_cases d:i=f
 ·subst d;have e3:(P.set t ((P.pg t).take (P.pg i).cls ((P.pg t).gap (P.pg t).cls) fun x=>(P.pg i).cell ((P.pg i).top (P.pg i).cls*bsz (P.pg i).cls+x))).pg i=P.pg i:=Pl.aV _ _ z.ne;have h2:=h1.release hc (l:=(P.pg i).top (P.pg i).cls) (by rcases e' with h3|h3;exact absurd rfl h3;exact h3.symm);rw [e3] at h2;exact h2
 exact h1.aV d _
theorem Pl.Holds.tells {P:Pl} {c:Int} (hc:IsC c) {i k:Nat} {v:Nat->Int} (h:P.Holds c i k v) {x:Nat} (hx:x<bsz c) :
  P.begin ((16*i+k*bsz c+x:Nat):Int)=(((16*i+k*bsz c:Nat):Int),0)/\P.cell ((16*i+k*bsz c+x:Nat):Int)=(v x,0):=by
 have hb:=hc.blk h.kb;have hi:=h.hi;obtain ⟨A,hA⟩:∃ A,A=16*i+k*bsz c+x:=⟨_,rfl⟩;have d:A / 16=i:=by omega
 have h2:A % 16=k*bsz c+x:=by omega
 have h3:(k*bsz c+x) / bsz c=k:=hc.aOx (by omega) (by omega);have y:=h.cls;have ha:P.addr (A:Int)=true:=Pl.iJ.2 ⟨by omega,by omega⟩;have z:P.begin (A:Int)=(((16*i+k*bsz c:Nat):Int),0):=by
  rw [Pl.kD ha (by show ¬ (P.pg (A / 16)).cls<0;rw [d,y];rcases hc with e|e|e<;>omega) (by show (P.pg (A / 16)).used (A % 16 / bsz (P.pg (A / 16)).cls)=true;rw [d,h2,y,h3];exact h.used)]
  show (((A / 16*16+A % 16 / bsz (P.pg (A / 16)).cls*bsz (P.pg (A / 16)).cls:Nat):Int),(0:Int))=_;rw [d,h2,y,h3,Nat.mul_comm i 16]
 rw [<-hA];refine ⟨z,?_⟩;unfold Pl.cell;rw [z];simp only [if_true];show ((P.pg (A / 16)).cell (A % 16),(0:Int))=_;rw [d,h2,h.cell x hx]
set_option linter.unusedVariables false
theorem Pg.take_holds {P:Pl} {c:Int} (d:IsC c) {i k:Nat} (y:i<P.n) (z:k<bpt c):(P.set i ((P.pg i).take c k fun _=>0)).Holds c i k (fun _=>0):=by
 refine ⟨y,?_,z,?_,fun x hx=>?_⟩
 ·rw [Pl.aP];rfl
 ·rw [Pl.aP];exact bM _ _ _
 rw [Pl.aP];show (if k*bsz c<=k*bsz c+x/\k*bsz c+x<k*bsz c+bsz c then (0:Int) else _)=0;rw [if_pos ⟨by omega,by omega⟩]
theorem Pl.aFf {P:Pl} (h:P.ok) {c:Int} (y:IsC c) (e:(P.alloc c).2.1=0) :
  ∃ i k,(P.alloc c).1=((16*i+k*bsz c:Nat):Int)/\(P.alloc c).2.2.Holds c i k (fun _=>0):=by
 have h0:=y.sz;rcases P.gW c with hb|⟨_,⟨i,z,d,hb⟩|⟨hn,⟨i,z,d,hb⟩|hf⟩⟩
 ·exact absurd hb (uI.2 y)
 ·have hg:=(h i z).gap y d;rw [Pl.fQ y z d hb];exact ⟨i,(P.pg i).gap c,rfl,Pg.take_holds y z hg.1⟩
 ·rw [Pl.iI y hn z d hb];exact ⟨i,0,by simp,Pg.take_holds y z (by omega)⟩
 rw [Pl.fU y hn hf] at e
 cases e
theorem Pl.Holds.put {P:Pl} {c:Int} (d:IsC c) {i k:Nat} {v:Nat->Int} (h:P.Holds c i k v) {x:Nat} (hx:x<bsz c) (n:Int) :
  (P.setCell ((16*i+k*bsz c+x:Nat):Int) n).1=0/\(P.setCell ((16*i+k*bsz c+x:Nat):Int) n).2.Holds c i k (up v x n):=by
 have ht:=(h.tells d hx).1;have hb:=d.blk h.kb;obtain ⟨A,hA⟩:∃ A,A=16*i+k*bsz c+x:=⟨_,rfl⟩;rw [<-hA] at ht ⊢;have h1:A / 16=i:=by omega
 have h2:A % 16=k*bsz c+x:=by omega
 have e:P.setCell (A:Int) n=(0,P.set i { P.pg i with cell:=up (P.pg i).cell (k*bsz c+x) n }):=by
  unfold Pl.setCell;rw [ht];simp only [if_true];rw [show (A:Int).toNat=A from rfl,h1,h2]
 rw [e];refine ⟨rfl,h.hi,?_,h.kb,?_,fun y hy=>?_⟩
 ·show ((P.set i _).pg i).cls=c;rw [Pl.aP];exact h.cls
 ·show ((P.set i _).pg i).used k=true;rw [Pl.aP];exact h.used
 show ((P.set i _).pg i).cell (k*bsz c+y)=_;rw [Pl.aP];show up (P.pg i).cell (k*bsz c+x) n (k*bsz c+y)=up v x n y
 by_cases z:y=x
 ·subst z;rw [bM,bM]
 rw [aU _ _ (by omega),aU _ _ z,h.cell y hy]
theorem Pl.Holds.move {P:Pl} (h0:P.ok) {c:Int} (hc:IsC c) {i k:Nat} {v:Nat->Int} (h:P.Holds c i k v) :
  (P.move.2.2.1=0/\P.move.1=((16*i+k*bsz c:Nat):Int)/\∃ i' k',P.move.2.1=((16*i'+k'*bsz c:Nat):Int)/\P.move.2.2.2.Holds c i' k' v)\/
  (¬ (P.move.2.2.1=0/\P.move.1=((16*i+k*bsz c:Nat):Int))/\P.move.2.2.2.Holds c i k v):=by
 cases hp:P.pair with
 | none=>
  rw [Pl.fC hp];exact .inr ⟨fun d=>by have:=d.1;simp at this,h⟩
 | some x=>
  obtain ⟨f,t⟩:=x;have y:=Pl.jG hp;rw [Pl.fB hp];rcases h.moved h0 hc y with ⟨rfl,z,d⟩|⟨z,d⟩
  ·refine .inl ⟨rfl,?_,t,(P.pg t).gap c,?_,d⟩
   ·show ((16*i+(P.pg i).top (P.pg i).cls*bsz (P.pg i).cls:Nat):Int)=_;rw [<-z,h.cls]
   show ((16*t+(P.pg t).gap (P.pg t).cls*bsz (P.pg i).cls:Nat):Int)=_;rw [y.same,h.cls]
  refine .inr ⟨fun h3=>?_,d⟩;have h4:16*f+(P.pg f).top (P.pg f).cls*bsz (P.pg f).cls=16*i+k*bsz c:=Int.ofNat.inj h3.2;have h6:(P.pg f).cls≠-1:=by rcases y.c with e|e|e<;>omega
  have b1:=y.c.blk ((h0 f y.hi).top h6).1;have b2:=hc.blk h.kb;have s1:=y.c.sz;have s2:=hc.sz;have h5:i=f:=by omega
  subst h5;rw [h.cls] at h4 z;rcases z with z|z
  ·exact z rfl
  exact z (hc.blocks (by omega))
theorem Pl.Holds.upto {P:Pl} {c:Int} {i k:Nat} {v y:Nat->Int} (h:P.Holds c i k v) (e:∀ x,x<bsz c->y x=v x):P.Holds c i k y:=
 ⟨h.hi,h.cls,h.kb,h.used,fun x hx=>by rw [h.cell x hx,e x hx]⟩
end Go.Proofs.YthflghdaejbdkaaGreat
namespace Go.Proofs.YthflghdaejbdkaaGreat
def gI (l:List Int) (i:Nat):Int:=l[i]?.getD 0
structure QSt where
 cells:List Int
 head:Nat
 tail:Nat
 put:Nat
 take:Nat
 word:Int
 taken:Int
def QSt.n (s:QSt):Nat:=s.cells.length
def QSt.nx (s:QSt) (i:Nat):Nat:=(i+1) % s.cells.length
end Go.Proofs.YthflghdaejbdkaaGreat
