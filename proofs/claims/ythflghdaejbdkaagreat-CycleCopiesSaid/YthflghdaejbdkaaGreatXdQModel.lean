/- Lemmas of this claim. -/
import Derived.Test.YthflghdaejbdkaaGreatXdRBlock
namespace Go.Proofs.YthflghdaejbdkaaGreat
def Pl.mW (P:Pl) (x:Nat):Bool:=decide ((P.begin (x:Int)).2=0/\(P.begin (x:Int)).1=(x:Int))
theorem Pl.aEP {P:Pl} (h:P.ok) {i j:Nat} (hi:i<P.n) (hj:j<16):P.mW (16*i+j)=(P.pg i).live j:=by
 have s:Adr P (16*i+j) i j:=⟨by omega,by omega,hi,hj,by omega⟩;have:=sK h s
 cases hl:(P.pg i).live j with
 | true=>unfold Pl.mW;rw [decide_eq_true (this.1 hl)]
 | false=>
  unfold Pl.mW;rw [decide_eq_false];intro h2;rw [this.2 h2] at hl;cases hl
theorem aNw (u:Nat->Bool) (a b:Nat):cnt u (a+b)=cnt u a+cnt (fun j=>u (a+j)) b:=by
 induction b with
 | zero=>rfl
 | succ b ih=>
  have e1:cnt u (a+(b+1))=cnt u (a+b)+if u (a+b) then 1 else 0:=rfl;have e2:cnt (fun j=>u (a+j)) (b+1)=cnt (fun j=>u (a+j)) b+if u (a+b) then 1 else 0:=rfl;rw [e1,e2,ih];omega
theorem Pl.xO {P:Pl} (h:P.ok):cnt P.mW (16*P.n)=lN (fun i=>(P.pg i).count) P.n:=by
 have key:∀ k,k<=P.n->cnt P.mW (16*k)=lN (fun i=>(P.pg i).count) k:=by
  intro k
  induction k with
  | zero=>intro _;rfl
  | succ k ih=>
   intro hk;rw [Nat.mul_succ,aNw,ih (by omega)];show _=_+(P.pg k).count;rw [jD (v:=(P.pg k).live) (fun j hj=>Pl.aEP h (by omega) hj),Pg.aEO (h k (by omega)).w]
 exact key P.n (Nat.le_refl _)
theorem Pl.aKb {P:Pl} (h:P.ok):P.aBz 0 P.n+P.aBz 1 P.n+P.aBz 2 P.n=cnt P.mW (16*P.n):=by
 rw [Pl.xO h];show lN (P.aDo 0) P.n+lN (P.aDo 1) P.n+lN (P.aDo 2) P.n=_;rw [<-aEB,<-aEB];refine rU fun i hi=>?_;unfold Pl.aDo;rcases (h i hi).cls with e|e|e|e
 ·rw [(h i hi).aGS e];simp
 ·simp [e]
 ·simp [e]
 simp [e]
def Pl.lives (P:Pl) (k:Nat):List Nat:=(List.range k).filter P.mW
theorem Pl.aGj (P:Pl) (k:Nat):P.lives (k+1)=P.lives k ++ if P.mW k then [k] else []:=by
 unfold Pl.lives;rw [List.range_succ,List.filter_append];congr 1
 cases h:P.mW k<;>simp [h]
theorem Pl.aIz (P:Pl) (k:Nat):(P.lives k).length=cnt P.mW k:=by
 induction k with
 | zero=>rfl
 | succ k ih=>
  rw [Pl.aGj,List.length_append,ih];show _=cnt P.mW k+_
  cases h:P.mW k<;>simp
theorem Pl.aCp {P:Pl} {k x:Nat}:x∈P.lives k↔x<k/\P.mW x=true:=by simp [Pl.lives]
theorem Pl.aPE {P:Pl} (h:P.ok) (hn:∀ y,y<16*P.n->P.mW y=false):P.aQH P.n=P.n/\P.aQb P.n=0/\P.aQG P.n=0:=by
 have hf:∀ i,i<P.n->(P.pg i).cls = -1:=by
  intro i hi;rcases (h i hi).cls with h1|hC
  ·exact h1
  exfalso;have hne:(P.pg i).cls≠-1:=by rcases hC with e|e|e<;>omega
  obtain ⟨k,hk,hu⟩:=(h i hi).some1 hne;have hb:=hC.blk hk;have hl:=Pg.sN hC k;have:=hn (16*i+k*bsz (P.pg i).cls) (by have:=hC.sz;omega);rw [Pl.aEP h hi (by have:=hC.sz;omega),hl,hu] at this
  cases this
 refine ⟨?_,pW.2 fun i hi=>?_,pW.2 fun i hi=>?_⟩
 ·have key:∀ k,k<=P.n->lN P.aJn k=k:=by
   intro k
   induction k with
   | zero=>intro _;rfl
   | succ k ih=>
    intro hk;show lN P.aJn k+P.aJn k=k+1;rw [ih (by omega)];unfold Pl.aJn;rw [if_pos (by rw [hf k (by omega)];decide)]
  exact key P.n (Nat.le_refl _)
 ·unfold Pl.aOp;rw [if_neg (by rw [hf i hi];simp)]
 unfold Pl.aOS;rw [if_neg (by rw [hf i hi];simp)]
structure Pl.Holds (P:Pl) (c:Int) (i k:Nat) (v:Nat->Int):Prop where
 hi:i<P.n
 cls:(P.pg i).cls=c
 kb:k<bpt c
 used:(P.pg i).used k=true
 cell:∀ x,x<bsz c->(P.pg i).cell (k*bsz c+x)=v x
theorem Pl.Holds.aU {P:Pl} {c:Int} {i k:Nat} {v:Nat->Int} (h:P.Holds c i k v) {j:Nat} (hj:i≠j) (x:Pg):(P.set j x).Holds c i k v:=by
 have e:(P.set j x).pg i=P.pg i:=Pl.aU _ _ hj;exact ⟨h.hi,by rw [e];exact h.cls,h.kb,by rw [e];exact h.used,by rw [e];exact h.cell⟩
theorem Pl.Holds.aP {P:Pl} {c:Int} {i k:Nat} {v:Nat->Int} (h:P.Holds c i k v) (x:Pg) (h1:x.cls=c) (h2:x.used k=true) (h3:∀ y,y<bsz c->x.cell (k*bsz c+y)=(P.pg i).cell (k*bsz c+y)):(P.set i x).Holds c i k v:=by
 have e:(P.set i x).pg i=x:=Pl.aP _ _ _;exact ⟨h.hi,by rw [e];exact h1,h.kb,by rw [e];exact h2,fun y hy=>by rw [e,h3 y hy];exact h.cell y hy⟩
theorem Pl.Holds.take {P:Pl} {c:Int} (hc:IsC c) {i k:Nat} {v:Nat->Int} (h:P.Holds c i k v) {l:Nat} (hl:l≠k) (f:Nat->Int):(P.set i ((P.pg i).take c l f)).Holds c i k v:=by
 refine h.aP _ rfl ?_ (fun y hy=>?_)
 ·show up (P.pg i).used l true k=true;rw [aW _ _ hl.symm];exact h.used
 show (if _ then _ else _)=_;rw [if_neg];intro h2;apply hl;have h4:=hc.aMU h2.1 h2.2;have h5:=hc.aMU (k:=k) (j:=k*bsz c+y) (by omega) (by omega);omega
theorem Pl.Holds.release {P:Pl} {c:Int} (hc:IsC c) {i k:Nat} {v:Nat->Int} (h:P.Holds c i k v) {l:Nat} (hl:l≠k):(P.set i ((P.pg i).release l)).Holds c i k v:=by
 have hsz:=hc.sz;have hk:=h.kb;have hn:¬ cnt (up (P.pg i).used l false) 8=0:=by
  intro h0;have:=oW.1 h0 k (by omega);rw [aW _ _ hl.symm,h.used] at this
  cases this
 refine h.aP _ ?_ ?_ (fun y hy=>rfl)
 ·unfold Pg.release;simp only [hn,if_false];exact h.cls
 show up (P.pg i).used l false k=true;rw [aW _ _ hl.symm];exact h.used
theorem Pl.Holds.alloc {P:Pl} (hok:P.ok) {c:Int} (hc:IsC c) {i k:Nat} {v:Nat->Int} (h:P.Holds c i k v) (cl:Int):(P.alloc cl).2.2.Holds c i k v:=by
 rcases P.fV cl with hb|⟨hcl,⟨j,hj,hp,hb⟩|⟨hn,⟨j,hj,hp,hb⟩|hf⟩⟩
 ·rw [Pl.jY hb];exact h
 ·rw [Pl.fC hcl hj hp hb]
  by_cases e:i=j
  ·subst e;have he:=(Pg.dP.1 hp).1;have hcc:cl=c:=he.symm.trans h.cls;subst hcc;refine h.take hc (fun e=>?_) _;have:=((hok i hj).gap hc hp).2;rw [e,h.used] at this;cases this
  exact h.aU e _
 ·rw [Pl.iC hcl hn hj hp hb];refine h.aU (fun e=>?_) _;subst e;rw [h.cls] at hp;rcases hc with e|e|e<;>omega
 rw [Pl.fD hcl hn hf];exact h
theorem Pl.Holds.free {P:Pl} {c:Int} (hc:IsC c) {i k:Nat} {v:Nat->Int} (h:P.Holds c i k v) {a:Int} (ha:a≠((16*i+k*bsz c:Nat):Int)):(P.free a).2.Holds c i k v:=by
 unfold Pl.free;split
 ·rename_i h0;have hb:=Pl.lK h0;split
  ·rename_i h1
   by_cases e:i=a.toNat / 16
   ·rw [<-e] at hb ⊢;refine h.release hc (fun e2=>ha ?_);have h3:=hb.2.2.2.1;rw [h1,e2,h.cls] at h3;omega
   exact h.aU e _
  exact h
 exact h
theorem Pl.Holds.setCell {P:Pl} {c:Int} {i k:Nat} {v:Nat->Int} (h:P.Holds c i k v) {a n:Int} (ha:a<((16*i+k*bsz c:Nat):Int)\/((16*i+k*bsz c+bsz c:Nat):Int)<=a):(P.setCell a n).2.Holds c i k v:=by
 unfold Pl.setCell;split
 ·rename_i h0;have hb:=Pl.lK h0
  by_cases e:i=a.toNat / 16
  ·rw [<-e];refine h.aP _ h.cls h.used (fun y hy=>?_);show up (P.pg i).cell (a.toNat % 16) n (k*bsz c+y)=_;rw [aW];have h6:=hb.2.2.2.2.2.2;omega
  exact h.aU e _
 exact h
theorem Pl.Holds.moved {P:Pl} (hok:P.ok) {c:Int} (hc:IsC c) {i k:Nat} {v:Nat->Int} (h:P.Holds c i k v) {f t:Nat} (hp:P.Pair f t) :
  (i=f/\k=(P.pg f).top (P.pg f).cls/\(P.moved f t).Holds c t ((P.pg t).gap c) v)\/((i≠f\/k≠(P.pg f).top (P.pg f).cls)/\(P.moved f t).Holds c i k v):=by
 have hne:(P.pg f).cls≠-1:=by rcases hp.c with e|e|e<;>omega
 have htop:=(hok f hp.hi).top hne;have lT:=(hok t hp.hj).gap hp.c hp.pj
 by_cases e:i=f/\k=(P.pg f).top (P.pg f).cls
 ·obtain ⟨rfl,hk⟩:=e;refine .inl ⟨rfl,hk,?_⟩;have hcl:=h.cls;rw [hcl] at hk lT;have hts:(P.pg t).cls=c:=hp.same.trans hcl;have e1:(P.moved i t).pg t=(P.pg t).take c ((P.pg t).gap c) fun x=>(P.pg i).cell (k*bsz c+x):=by
   unfold Pl.moved;rw [Pl.aU _ _ hp.ne.symm,Pl.aP,hcl,hts,<-hk]
  refine ⟨hp.hj,by rw [e1];rfl,lT.1,by rw [e1];exact bK _ _ _,fun x hx=>?_⟩;rw [e1];show (if _ then _ else _)=_;rw [if_pos ⟨by omega,by omega⟩,show (P.pg t).gap c*bsz c+x - (P.pg t).gap c*bsz c=x by omega];exact h.cell x hx
 have e':i≠f\/k≠(P.pg f).top (P.pg f).cls:=by
  by_cases e2:i=f
  ·exact .inr (fun e3=>e ⟨e2,e3⟩)
  exact .inl e2
 refine .inr ⟨e',?_⟩;unfold Pl.moved;have h1:(P.set t ((P.pg t).take (P.pg f).cls ((P.pg t).gap (P.pg t).cls) fun x=>(P.pg f).cell ((P.pg f).top (P.pg f).cls*bsz (P.pg f).cls+x))).Holds c i k v:=by
  by_cases e2:i=t
  ·subst e2;have hcl:(P.pg f).cls=c:=hp.same.symm.trans h.cls;rw [hcl] at lT;rw [hcl,h.cls];refine h.take hc (fun e3=>?_) _;rw [e3,h.used] at lT
   cases lT.2
  exact h.aU e2 _
 by_cases e2:i=f
 ·subst e2;have e3:(P.set t ((P.pg t).take (P.pg i).cls ((P.pg t).gap (P.pg t).cls) fun x=>(P.pg i).cell ((P.pg i).top (P.pg i).cls*bsz (P.pg i).cls+x))).pg i=P.pg i:=Pl.aU _ _ hp.ne;have h2:=h1.release hc (l:=(P.pg i).top (P.pg i).cls) (by rcases e' with h3|h3;exact absurd rfl h3;exact h3.symm);rw [e3] at h2;exact h2
 exact h1.aU e2 _
theorem Pl.Holds.tells {P:Pl} {c:Int} (hc:IsC c) {i k:Nat} {v:Nat->Int} (h:P.Holds c i k v) {x:Nat} (hx:x<bsz c) :
  P.begin ((16*i+k*bsz c+x:Nat):Int)=(((16*i+k*bsz c:Nat):Int),0)/\P.cell ((16*i+k*bsz c+x:Nat):Int)=(v x,0):=by
 have hb:=hc.blk h.kb;have hi:=h.hi;obtain ⟨A,hA⟩:∃ A,A=16*i+k*bsz c+x:=⟨_,rfl⟩;have h1:A / 16=i:=by omega
 have h2:A % 16=k*bsz c+x:=by omega
 have h3:(k*bsz c+x) / bsz c=k:=hc.aMU (by omega) (by omega);have hcl:=h.cls;have ha:P.addr (A:Int)=true:=Pl.iD.2 ⟨by omega,by omega⟩;have hbg:P.begin (A:Int)=(((16*i+k*bsz c:Nat):Int),0):=by
  rw [Pl.jX ha (by show ¬ (P.pg (A / 16)).cls<0;rw [h1,hcl];rcases hc with e|e|e<;>omega) (by show (P.pg (A / 16)).used (A % 16 / bsz (P.pg (A / 16)).cls)=true;rw [h1,h2,hcl,h3];exact h.used)]
  show (((A / 16*16+A % 16 / bsz (P.pg (A / 16)).cls*bsz (P.pg (A / 16)).cls:Nat):Int),(0:Int))=_;rw [h1,h2,hcl,h3,Nat.mul_comm i 16]
 rw [<-hA];refine ⟨hbg,?_⟩;unfold Pl.cell;rw [hbg];simp only [if_true];show ((P.pg (A / 16)).cell (A % 16),(0:Int))=_;rw [h1,h2,h.cell x hx]
set_option linter.unusedVariables false
theorem Pg.take_holds {P:Pl} {c:Int} (hc:IsC c) {i k:Nat} (hi:i<P.n) (hk:k<bpt c):(P.set i ((P.pg i).take c k fun _=>0)).Holds c i k (fun _=>0):=by
 refine ⟨hi,?_,hk,?_,fun x hx=>?_⟩
 ·rw [Pl.aP];rfl
 ·rw [Pl.aP];exact bK _ _ _
 rw [Pl.aP];show (if k*bsz c<=k*bsz c+x/\k*bsz c+x<k*bsz c+bsz c then (0:Int) else _)=0;rw [if_pos ⟨by omega,by omega⟩]
theorem Pl.aEo {P:Pl} (h:P.ok) {c:Int} (hc:IsC c) (he:(P.alloc c).2.1=0) :
  ∃ i k,(P.alloc c).1=((16*i+k*bsz c:Nat):Int)/\(P.alloc c).2.2.Holds c i k (fun _=>0):=by
 have hsz:=hc.sz;rcases P.fV c with hb|⟨_,⟨i,hi,hp,hb⟩|⟨hn,⟨i,hi,hp,hb⟩|hf⟩⟩
 ·exact absurd hb (sU.2 hc)
 ·have hg:=(h i hi).gap hc hp;rw [Pl.fC hc hi hp hb];exact ⟨i,(P.pg i).gap c,rfl,Pg.take_holds hc hi hg.1⟩
 ·rw [Pl.iC hc hn hi hp hb];exact ⟨i,0,by simp,Pg.take_holds hc hi (by omega)⟩
 rw [Pl.fD hc hn hf] at he
 cases he
theorem Pl.Holds.put {P:Pl} {c:Int} (hc:IsC c) {i k:Nat} {v:Nat->Int} (h:P.Holds c i k v) {x:Nat} (hx:x<bsz c) (n:Int) :
  (P.setCell ((16*i+k*bsz c+x:Nat):Int) n).1=0/\(P.setCell ((16*i+k*bsz c+x:Nat):Int) n).2.Holds c i k (up v x n):=by
 have ht:=(h.tells hc hx).1;have hb:=hc.blk h.kb;obtain ⟨A,hA⟩:∃ A,A=16*i+k*bsz c+x:=⟨_,rfl⟩;rw [<-hA] at ht ⊢;have h1:A / 16=i:=by omega
 have h2:A % 16=k*bsz c+x:=by omega
 have e:P.setCell (A:Int) n=(0,P.set i { P.pg i with cell:=up (P.pg i).cell (k*bsz c+x) n }):=by
  unfold Pl.setCell;rw [ht];simp only [if_true];rw [show (A:Int).toNat=A from rfl,h1,h2]
 rw [e];refine ⟨rfl,h.hi,?_,h.kb,?_,fun y hy=>?_⟩
 ·show ((P.set i _).pg i).cls=c;rw [Pl.aP];exact h.cls
 ·show ((P.set i _).pg i).used k=true;rw [Pl.aP];exact h.used
 show ((P.set i _).pg i).cell (k*bsz c+y)=_;rw [Pl.aP];show up (P.pg i).cell (k*bsz c+x) n (k*bsz c+y)=up v x n y
 by_cases hxy:y=x
 ·subst hxy;rw [bK,bK]
 rw [aW _ _ (by omega),aW _ _ hxy,h.cell y hy]
theorem Pl.Holds.move {P:Pl} (hok:P.ok) {c:Int} (hc:IsC c) {i k:Nat} {v:Nat->Int} (h:P.Holds c i k v) :
  (P.move.2.2.1=0/\P.move.1=((16*i+k*bsz c:Nat):Int)/\∃ i' k',P.move.2.1=((16*i'+k'*bsz c:Nat):Int)/\P.move.2.2.2.Holds c i' k' v)\/
  (¬ (P.move.2.2.1=0/\P.move.1=((16*i+k*bsz c:Nat):Int))/\P.move.2.2.2.Holds c i k v):=by
 cases hp:P.pair with
 | none=>
  rw [Pl.fJ hp];exact .inr ⟨fun h2=>by have:=h2.1;simp at this,h⟩
 | some x=>
  obtain ⟨f,t⟩:=x;have hp2:=Pl.iW hp;rw [Pl.fH hp];rcases h.moved hok hc hp2 with ⟨rfl,h1,h2⟩|⟨h1,h2⟩
  ·refine .inl ⟨rfl,?_,t,(P.pg t).gap c,?_,h2⟩
   ·show ((16*i+(P.pg i).top (P.pg i).cls*bsz (P.pg i).cls:Nat):Int)=_;rw [<-h1,h.cls]
   show ((16*t+(P.pg t).gap (P.pg t).cls*bsz (P.pg i).cls:Nat):Int)=_;rw [hp2.same,h.cls]
  refine .inr ⟨fun h3=>?_,h2⟩;have h4:16*f+(P.pg f).top (P.pg f).cls*bsz (P.pg f).cls=16*i+k*bsz c:=Int.ofNat.inj h3.2;have hne:(P.pg f).cls≠-1:=by rcases hp2.c with e|e|e<;>omega
  have b1:=hp2.c.blk ((hok f hp2.hi).top hne).1;have b2:=hc.blk h.kb;have s1:=hp2.c.sz;have s2:=hc.sz;have hfi:i=f:=by omega
  subst hfi;rw [h.cls] at h4 h1;rcases h1 with h1|h1
  ·exact h1 rfl
  exact h1 (hc.blocks (by omega))
theorem Pl.Holds.upto {P:Pl} {c:Int} {i k:Nat} {v v':Nat->Int} (h:P.Holds c i k v) (e:∀ x,x<bsz c->v' x=v x):P.Holds c i k v':=
 ⟨h.hi,h.cls,h.kb,h.used,fun x hx=>by rw [h.cell x hx,e x hx]⟩
end Go.Proofs.YthflghdaejbdkaaGreat
namespace Go.Proofs.YthflghdaejbdkaaGreat
def gI (l:List Int) (i:Nat):Int:=l[i]?.getD 0
structure QSt where
 cells:List Int
 head:Nat
 tail:Nat
 put:Nat
 take:Nat
 word:Int
 taken:Int
def QSt.n (s:QSt):Nat:=s.cells.length
def QSt.nx (s:QSt) (i:Nat):Nat:=(i+1) % s.cells.length
end Go.Proofs.YthflghdaejbdkaaGreat
