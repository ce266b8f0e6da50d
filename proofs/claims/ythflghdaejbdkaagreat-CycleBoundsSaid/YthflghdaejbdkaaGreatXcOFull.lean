/- Lemmas of this claim. -/
import Derived.Test.YthflghdaejbdkaaGreatXcOModel
import Derived.Test.YthflghdaejbdkaaGreatXcInts
import Derived.Laws.StructEq
import Derived.Test.YthflghdaejbdkaaGreatXcObjG
import Derived.Test.YthflghdaejbdkaaGreatXcQModel
namespace Go.Proofs.YthflghdaejbdkaaGreat
set_option linter.unusedVariables false
set_option maxRecDepth 100000
theorem aGA {P:Pl} {a n:Int} (x:Nat):(((P.setCell a n).2).pg x).cls=(P.pg x).cls/\(((P.setCell a n).2).pg x).used=(P.pg x).used:=by
 unfold Pl.setCell;split
 ·by_cases e:x=a.toNat / 16
  ·rw [e];simp only [Pl.aP];exact ⟨trivial,trivial⟩
  simp only [Pl.aV _ _ e];exact ⟨trivial,trivial⟩
 exact ⟨rfl,rfl⟩
theorem Hp.aCX {M:Hp} {k:Nat} {x:Int}:x∈M.aZ k↔∃ j:Nat,j<k/\x=(j:Int)+1/\(M.ob x).isSome=true:=by
 induction k with
 | zero=>simp [Hp.aZ]
 | succ k ih=>
  unfold Hp.aZ;rw [List.mem_append,ih];constructor
  ·rintro (⟨j,d,y,z⟩|h)
   ·exact ⟨j,by omega,y,z⟩
   split at h
   ·rename_i hs;simp at h;subst h;exact ⟨k,by omega,rfl,hs⟩
   simp at h
  rintro ⟨j,d,y,z⟩
  by_cases e:j=k
  ·right;subst e;subst y;rw [if_pos z];simp
  exact .inl ⟨j,by omega,y,z⟩
theorem Hp.yZ {M:Hp} {i:Nat} (y:i<M.handles.length):(M.ob (gI M.handles i)).isSome=true:=by
 have:gI M.handles i∈M.handles:=kR.2 ⟨i,y,rfl⟩;obtain ⟨_,_,_,h⟩:=Hp.aCX.1 this;exact h
end Go.Proofs.YthflghdaejbdkaaGreat
namespace Go.Proofs.YthflghdaejbdkaaGreat
set_option linter.unusedVariables false
theorem aLE {f g:Nat->Nat} {i j n:Nat} (hi:i<n) (hj:j<n) (y:i≠j) (ho:∀ x,x<n->x≠i->x≠j->g x=f x) (h:g i+g j=f i+f j):jE g n=jE f n:=by
 have z:=mW (f:=f) (g:=fun x=>if x=i then g i else f x) hi (fun x _ hx=>by simp [hx]);have d:=mW (f:=fun x=>if x=i then g i else f x) (g:=g) hj (fun x hx hxj=>by
  by_cases e:x=i
  ·simp [e]
  simp only [e,if_false];exact ho x hx e hxj)
 simp only [if_true,y.symm,if_false] at z d;omega
theorem Pl.aEH {P:Pl} (h:P.ok) {i j:Nat} (d:P.Pair i j) :
  (((P.moved i j).pg i).cls=(P.pg i).cls/\((P.moved i j).pg i).count+1=(P.pg i).count\/((P.moved i j).pg i).cls = -1/\(P.pg i).count=1)/\((P.moved i j).pg j).cls=(P.pg i).cls/\((P.moved i j).pg j).count=(P.pg j).count+1:=by
 obtain ⟨y,h2,h3⟩:=Pl.yJ h d;refine ⟨?_,?_,h2⟩
 ·have e:(P.moved i j).pg i=(P.pg i).release ((P.pg i).top (P.pg i).cls):=by unfold Pl.moved;rw [Pl.aP]
  rw [e] at y ⊢;unfold Pg.release Pg.count at y;unfold Pg.release;simp only at y ⊢
  by_cases z:cnt (up (P.pg i).used ((P.pg i).top (P.pg i).cls) false) 8=0
  ·right;simp only [z,if_true];rw [z] at y;exact ⟨trivial,y.symm⟩
  left;simp only [z,if_false];exact ⟨trivial,y⟩
 unfold Pl.moved;rw [Pl.aV _ _ d.ne.symm,Pl.aP];rfl
theorem Pl.sV {P:Pl} (h:P.ok) {i j:Nat} (y:P.Pair i j) (c:Int) (hc:IsC c):(P.moved i j).aCi c P.n=P.aCi c P.n:=by
 obtain ⟨hi,z,d⟩:=Pl.aEH h y;obtain ⟨_,_,h3⟩:=Pl.yJ h y;refine aLE y.hi y.hj y.ne (fun x _ h0 h1=>by unfold Pl.aEf;rw [h3 x h0 h1]) ?_;unfold Pl.aEf;rw [z,d,y.same]
 by_cases e:(P.pg i).cls=c
 ·rw [if_pos e,if_pos e,if_pos e];rcases hi with ⟨a,b⟩|⟨a,b⟩
  ·rw [a,if_pos e];omega
  rw [a,if_neg (by rcases hc with e|e|e<;>omega)];omega
 rw [if_neg e,if_neg e,if_neg e];rcases hi with ⟨a,b⟩|⟨a,b⟩
 ·rw [a,if_neg e]
 rw [a,if_neg (by rcases hc with e|e|e<;>omega)]
set_option maxRecDepth 100000
def Pl.all (P:Pl):Nat:=jE (fun i=>(P.pg i).count) P.n
section
variable {P:Pl}
theorem Pl.aGi (h:P.ok):P.aCi 0 P.n+P.aCi 1 P.n+P.aCi 2 P.n=P.all:=by
 rw [Pl.aLs h,Pl.yS h];rfl
theorem Pl.mF (h:P.ok) (a n:Int):(P.setCell a n).2.all=P.all:=by
 unfold Pl.all;rw [(h.setCell a n).2];refine oC fun i _=>?_;unfold Pg.count;rw [(aGA i).2]
theorem Pl.aLb (h:P.ok) {c:Int} (d:(P.alloc c).2.1=0):(P.alloc c).2.2.all=P.all+1:=by
 rcases P.gW c with hb|⟨y,⟨i,z,hp,hb⟩|⟨hn,⟨i,z,hp,hb⟩|hf⟩⟩
 ·rw [Pl.kE hb] at d;cases d
 ·rw [Pl.fQ y z hp hb];have hg:=(h i z).gap y hp;have hs:=y.sz;have:=mW (f:=fun x=>(P.pg x).count) (g:=fun x=>((P.set i ((P.pg i).take c ((P.pg i).gap c) fun _=>0)).pg x).count) z (fun j hj e=>by simp only [Pl.aV _ _ e]);simp only [Pl.aP] at this;have e2:((P.pg i).take c ((P.pg i).gap c) fun _=>0).count=(P.pg i).count+1:=aBU (by omega) hg.2;rw [e2] at this;show jE (fun x=>((P.set i ((P.pg i).take c ((P.pg i).gap c) fun _=>0)).pg x).count) P.n=P.all+1;unfold Pl.all;omega
 ·rw [Pl.iI y hn z hp hb];have hg:=(h i z).ge;have hu:=(h i z).free (by omega) 0;have:=mW (f:=fun x=>(P.pg x).count) (g:=fun x=>((P.set i ((P.pg i).take c 0 fun _=>0)).pg x).count) z (fun j hj e=>by simp only [Pl.aV _ _ e]);simp only [Pl.aP] at this;have e2:((P.pg i).take c 0 fun _=>0).count=(P.pg i).count+1:=aBU (by omega) hu;rw [e2] at this;show jE (fun x=>((P.set i ((P.pg i).take c 0 fun _=>0)).pg x).count) P.n=P.all+1;unfold Pl.all;omega
 rw [Pl.fU y hn hf] at d;cases d
theorem Pl.aLa {c a:Int} {v:Nat->Int} (z:IsC c) (hb:Blk P c a v):(P.free a).2.all+1=P.all:=by
 have d:=hb.begin z;obtain ⟨i,l,rfl,y⟩:=hb;have hr:=z.blk y.kb;have h0:=z.mul_div l;have s:=z.sz;have h1:=y.kb;have t1:(((16*i+l*bsz c:Nat):Int)).toNat / 16=i:=by rw [Int.toNat_natCast];omega
 have t2:(((16*i+l*bsz c:Nat):Int)).toNat % 16=l*bsz c:=by rw [Int.toNat_natCast];omega
 unfold Pl.free;rw [d];simp only [if_true,t1,t2];rw [y.cls,h0.1];have:=mW (f:=fun x=>(P.pg x).count) (g:=fun x=>((P.set i ((P.pg i).release l)).pg x).count) y.hi (fun j hj e=>by simp only [Pl.aV _ _ e]);simp only [Pl.aP] at this;have e2:((P.pg i).release l).count+1=(P.pg i).count:=sJ (by omega) y.used;show jE (fun x=>((P.set i ((P.pg i).release l)).pg x).count) P.n+1=P.all;unfold Pl.all;omega
theorem Pl.aNr (h:P.ok):P.move.2.2.2.all=P.all:=by
 cases z:P.pair with
 | none=>rw [Pl.fC z]
 | some x=>
  obtain ⟨i,j⟩:=x;have y:=Pl.jG z;rw [Pl.fB z];show (P.moved i j).all=P.all;have d:=(h.moved y).2;rw [<-Pl.aGi (h.moved y).1,<-Pl.aGi h,d,Pl.sV h y 0 (.inl rfl),Pl.sV h y 1 (.inr (.inl rfl)),Pl.sV h y 2 (.inr (.inr rfl))]
theorem aIn (d:P.ok) {l:List Int} (hl:∀ m,m<l.length->IsC (gI l m)):∀ k,k<=l.length->∀ bs Q,dF P l k=some (bs,Q)->Q.all=P.all+k:=by
 intro k
 induction k with
 | zero=>
  intro _ bs Q e;unfold dF at e
  cases e
  rfl
 | succ k ih=>
  intro hk bs Q e;unfold dF at e
  cases z:dF P l k with
  | none=>rw [z] at e;cases e
  | some x=>
   obtain ⟨y,Q'⟩:=x;rw [z] at e;simp only at e;split at e
   ·rename_i he
    cases e
    have s:=dX d hl k (by omega) y Q' z;rw [Pl.aLb s.ok he,ih (by omega) y Q' z];omega
   cases e
theorem aMd (y:P.ok) (a:Int) (l:List Int) (k:Nat):(vN P a l k).all=P.all:=by
 induction k with
 | zero=>rfl
 | succ k z=>unfold vN;rw [Pl.mF (aCE y a l k).1,z]
theorem aKd (y:P.ok) (h:Int) (bs:List Int):(fK P h bs).all=P.all:=by
 unfold fK;rw [aMd (y.setCell _ _).1,Pl.mF y]
theorem aKD {l:List Int} {cs:List Int} (y:∀ m,m<l.length->IsC (gI cs m)) (hb:∀ m,m<l.length->∃ v,Blk P (gI cs m) (gI l m) v) (hd:∀ m,m<l.length->∀ m',m'<l.length->gI l m=gI l m'->m=m') :
  ∀ k,k<=l.length->(iH P l k).all+k=P.all:=by
 intro k
 induction k with
 | zero=>intro _;rfl
 | succ k ih=>
  intro hk;obtain ⟨v,d⟩:=hb k (by omega);have z:Blk (iH P l k) (gI cs k) (gI l k) v:=zK (y k (by omega)) d (fun m hm e=>by have:=hd m (by omega) k (by omega) e;omega);have:=Pl.aLa (y k (by omega)) z;have:=ih (by omega);show ((iH P l k).free (gI l k)).2.all+(k+1)=P.all;omega
end
def mP (o:Option Th):Nat:=match o with|none=>0|some o=>o.blocks.length
def vW (ob:Int->Option Th):Nat:=jE (fun k=>mP (ob ((k:Int)+1))) 192
theorem qY {ob:Int->Option Th} {h:Int} (z:1<=h/\h<=192) (x:Option Th):vW (dZ ob h x)+mP (ob h)=vW ob+mP x:=by
 obtain ⟨i,y,rfl⟩:∃ i:Nat,i<192/\h=(i:Int)+1:=⟨(h - 1).toNat,by omega,by omega⟩;have:=mW (f:=fun k=>mP (ob ((k:Int)+1))) (g:=fun k=>mP (dZ ob ((i:Int)+1) x ((k:Int)+1))) y (fun j hj e=>by show mP (dZ ob ((i:Int)+1) x ((j:Int)+1))=mP (ob ((j:Int)+1));rw [bD _ _ (by omega)]);simp only [aY] at this;exact this
def Hp.Full (M:Hp):Prop:=M.P.all=vW M.ob
structure Hp.OkF (M:Hp):Prop where
 ok:M.Ok
 full:M.Full
section
variable {M:Hp} {h:Int} {o:Th}
theorem Hp.OkF.new {n:Nat} (e:1<=n) (y:n<=24):(Hp.new n).OkF:=⟨Hp.Ok.new e y,by
 show jE (fun i=>Pg.zero.count) n=jE (fun k=>0) 192;have z:jE (fun i=>Pg.zero.count) n=0:=mV.2 (fun i _=>oV (fun _ _=>rfl));have d:jE (fun k=>0) 192=0:=mV.2 (fun i _=>rfl);rw [z,d]⟩
theorem Hp.OkF.add (z:M.OkF) (ho:o.ok1) (hz:∀ s,gI o.slots s=0):(M.add o).2.2.OkF:=by
 refine ⟨z.ok.add ho hz,?_⟩;unfold Hp.add;split
 ·rename_i hl;have y:=M.oO hl
  cases e:dF M.P (aS o.slots.length) (aS o.slots.length).length with
  | none=>exact z.full
  | some x=>
   obtain ⟨bs,Q⟩:=x;have s:=dX z.ok.p (l:=aS o.slots.length) (fun m d=>dM _ d) _ (Nat.le_refl _) bs Q e;have ha:=aIn z.ok.p (l:=aS o.slots.length) (fun m d=>dM _ d) _ (Nat.le_refl _) bs Q e;have hs:=qY (ob:=M.ob) (h:=(M.least:Int)+1) (by omega) (some { o with blocks:=bs });rw [y] at hs;have hf:M.P.all=vW M.ob:=z.full;show (fK Q ((M.least:Int)+1) bs).all=vW (dZ M.ob ((M.least:Int)+1) (some { o with blocks:=bs }));rw [aKd s.ok];have e2:mP (some ({ o with blocks:=bs }:Th))=bs.length:=rfl;have e3:mP none=0:=rfl;have:=s.len;omega
 exact z.full
theorem Hp.OkF.aH (d:M.OkF) (c:Int) (y:List Bool):(M.aH c y).2.2.OkF:=by
 unfold Hp.aH;split
 ·exact d
 rename_i z;exact d.add (pX z).1 (pX z).2
theorem Hp.OkF.aG (y:M.OkF) (k c n:Int):(M.aG k c n).2.2.OkF:=by
 unfold Hp.aG;split
 ·exact y
 rename_i z;split
 ·rename_i hd;exact y.add (qG z hd).1 (qG z hd).2
 exact y
theorem Hp.OkF.release (y:M.OkF) (h:Int):(M.release h).2.OkF:=by
 refine ⟨y.ok.release h,?_⟩;unfold Hp.release
 cases e:M.ob h with
 | none=>exact y.full
 | some o=>
  simp only;split
  ·exact y.full
  have hr:=y.ok.hr h o e;have hs:=qY (ob:=M.ob) hr none;have hl:=aKD (P:=M.P) (l:=o.blocks) (cs:=aS o.slots.length) (fun m z=>y.ok.isC e z) (fun m z=>⟨_,y.ok.bk h o e m z⟩) (fun m z m' hm' d=>(y.ok.dj h o e h o e m z m' hm' d).2) _ (Nat.le_refl _);have hf:M.P.all=vW M.ob:=y.full;show (iH M.P o.blocks o.blocks.length).all=vW (dZ M.ob h none);rw [e] at hs;have d:mP (some o)=o.blocks.length:=rfl;have e3:mP none=0:=rfl;omega
theorem Hp.OkF.set (y:M.OkF) (h s v:Int):(M.set h s v).2.OkF:=by
 refine ⟨y.ok.set h s v,?_⟩;unfold Hp.set
 cases e:M.ob h with
 | none=>exact y.full
 | some o=>
  simp only;split
  ·exact y.full
  split
  ·have z:=y.ok.hr h o e;have hs:=qY (ob:=M.ob) z (some (o.put s.toNat v));have hf:M.P.all=vW M.ob:=y.full;show ((M.P.setCell (o.addr s.toNat) v).2).all=vW (dZ M.ob h (some (o.put s.toNat v)));rw [Pl.mF y.ok.p];rw [e] at hs;have d:mP (some o)=o.blocks.length:=rfl;have e3:mP (some (o.put s.toNat v))=o.blocks.length:=rfl;omega
  exact y.full
theorem Hp.OkF.move (y:M.OkF):M.move.2.2.OkF:=by
 refine ⟨y.ok.move,?_⟩;have hm:=Pl.aNr y.ok.p;have hf:M.P.all=vW M.ob:=y.full;unfold Hp.move;split
 ·split
  ·rename_i o z hd;have d:M.owner M.P.move.1<192:=by simpa using hd
   have hs:=qY (ob:=M.ob) (h:=(M.owner M.P.move.1:Int)+1) (by omega) (some (o.moved (o.place M.P.move.1) M.P.move.2.1));rw [z] at hs;have e:mP (some o)=o.blocks.length:=rfl;have e3:mP (some (o.moved (o.place M.P.move.1) M.P.move.2.1))=o.blocks.length:=by
    show (o.blocks.set _ _).length=_;simp
   show (if _ then M.P.move.2.2.2 else _).all=vW (dZ M.ob _ _);split
   ·omega
   rw [Pl.mF y.ok.p.move.1];omega
  show M.P.move.2.2.2.all=vW M.ob;omega
 exact y.full
end
end Go.Proofs.YthflghdaejbdkaaGreat
