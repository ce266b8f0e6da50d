/- Lemmas of this claim. -/
import Derived.Test.YthflghdaejbdkaaGreatXdOModel
import Derived.Test.YthflghdaejbdkaaGreatXdInts
import Derived.Laws.StructEq
import Derived.Test.YthflghdaejbdkaaGreatXdObjG
import Derived.Test.YthflghdaejbdkaaGreatXdQModel
namespace Go.Proofs.YthflghdaejbdkaaGreat
set_option linter.unusedVariables false
set_option maxRecDepth 100000
theorem aFC {P:Pl} {a n:Int} (x:Nat):(((P.setCell a n).2).pg x).cls=(P.pg x).cls/\(((P.setCell a n).2).pg x).used=(P.pg x).used:=by
 unfold Pl.setCell;split
 ·by_cases e:x=a.toNat / 16
  ·rw [e];simp only [Pl.aP];exact ⟨trivial,trivial⟩
  simp only [Pl.aU _ _ e];exact ⟨trivial,trivial⟩
 exact ⟨rfl,rfl⟩
theorem Hp.aCm {M:Hp} {k:Nat} {x:Int}:x∈M.aX k↔∃ j:Nat,j<k/\x=(j:Int)+1/\(M.ob x).isSome=true:=by
 induction k with
 | zero=>simp [Hp.aX]
 | succ k ih=>
  unfold Hp.aX;rw [List.mem_append,ih];constructor
  ·rintro (⟨j,h1,h2,h3⟩|h)
   ·exact ⟨j,by omega,h2,h3⟩
   split at h
   ·rename_i hs;simp at h;subst h;exact ⟨k,by omega,rfl,hs⟩
   simp at h
  rintro ⟨j,h1,h2,h3⟩
  by_cases e:j=k
  ·right;subst e;subst h2;rw [if_pos h3];simp
  exact .inl ⟨j,by omega,h2,h3⟩
theorem Hp.xW {M:Hp} {i:Nat} (hi:i<M.handles.length):(M.ob (gI M.handles i)).isSome=true:=by
 have:gI M.handles i∈M.handles:=jQ.2 ⟨i,hi,rfl⟩;obtain ⟨_,_,_,h⟩:=Hp.aCm.1 this;exact h
end Go.Proofs.YthflghdaejbdkaaGreat
namespace Go.Proofs.YthflghdaejbdkaaGreat
set_option linter.unusedVariables false
theorem aKm {f g:Nat->Nat} {i j n:Nat} (hi:i<n) (hj:j<n) (hne:i≠j) (ho:∀ x,x<n->x≠i->x≠j->g x=f x) (h:g i+g j=f i+f j):lN g n=lN f n:=by
 have a1:=rQ (f:=f) (g:=fun x=>if x=i then g i else f x) hi (fun x _ hx=>by simp [hx]);have a2:=rQ (f:=fun x=>if x=i then g i else f x) (g:=g) hj (fun x hx hxj=>by
  by_cases e:x=i
  ·simp [e]
  simp only [e,if_false];exact ho x hx e hxj)
 simp only [if_true,hne.symm,if_false] at a1 a2;omega
theorem Pl.aDP {P:Pl} (h:P.ok) {i j:Nat} (hp:P.Pair i j) :
  (((P.moved i j).pg i).cls=(P.pg i).cls/\((P.moved i j).pg i).count+1=(P.pg i).count\/((P.moved i j).pg i).cls = -1/\(P.pg i).count=1)/\((P.moved i j).pg j).cls=(P.pg i).cls/\((P.moved i j).pg j).count=(P.pg j).count+1:=by
 obtain ⟨h1,h2,h3⟩:=Pl.xC h hp;refine ⟨?_,?_,h2⟩
 ·have e:(P.moved i j).pg i=(P.pg i).release ((P.pg i).top (P.pg i).cls):=by unfold Pl.moved;rw [Pl.aP]
  rw [e] at h1 ⊢;unfold Pg.release Pg.count at h1;unfold Pg.release;simp only at h1 ⊢
  by_cases h0:cnt (up (P.pg i).used ((P.pg i).top (P.pg i).cls) false) 8=0
  ·right;simp only [h0,if_true];rw [h0] at h1;exact ⟨trivial,h1.symm⟩
  left;simp only [h0,if_false];exact ⟨trivial,h1⟩
 unfold Pl.moved;rw [Pl.aU _ _ hp.ne.symm,Pl.aP];rfl
theorem Pl.rP {P:Pl} (h:P.ok) {i j:Nat} (hp:P.Pair i j) (c:Int) (hc:IsC c):(P.moved i j).aBz c P.n=P.aBz c P.n:=by
 obtain ⟨hi,hj1,hj2⟩:=Pl.aDP h hp;obtain ⟨_,_,h3⟩:=Pl.xC h hp;refine aKm hp.hi hp.hj hp.ne (fun x _ hxi hxj=>by unfold Pl.aDo;rw [h3 x hxi hxj]) ?_;unfold Pl.aDo;rw [hj1,hj2,hp.same]
 by_cases e:(P.pg i).cls=c
 ·rw [if_pos e,if_pos e,if_pos e];rcases hi with ⟨a,b⟩|⟨a,b⟩
  ·rw [a,if_pos e];omega
  rw [a,if_neg (by rcases hc with e|e|e<;>omega)];omega
 rw [if_neg e,if_neg e,if_neg e];rcases hi with ⟨a,b⟩|⟨a,b⟩
 ·rw [a,if_neg e]
 rw [a,if_neg (by rcases hc with e|e|e<;>omega)]
set_option maxRecDepth 100000
def Pl.all (P:Pl):Nat:=lN (fun i=>(P.pg i).count) P.n
section
variable {P:Pl}
theorem Pl.aFl (h:P.ok):P.aBz 0 P.n+P.aBz 1 P.n+P.aBz 2 P.n=P.all:=by
 rw [Pl.aKb h,Pl.xO h];rfl
theorem Pl.lM (h:P.ok) (a n:Int):(P.setCell a n).2.all=P.all:=by
 unfold Pl.all;rw [(h.setCell a n).2];refine rU fun i _=>?_;unfold Pg.count;rw [(aFC i).2]
theorem Pl.aJK (h:P.ok) {c:Int} (he:(P.alloc c).2.1=0):(P.alloc c).2.2.all=P.all+1:=by
 rcases P.fV c with hb|⟨hcl,⟨i,hi,hp,hb⟩|⟨hn,⟨i,hi,hp,hb⟩|hf⟩⟩
 ·rw [Pl.jY hb] at he;cases he
 ·rw [Pl.fC hcl hi hp hb];have hg:=(h i hi).gap hcl hp;have hs:=hcl.sz;have:=rQ (f:=fun x=>(P.pg x).count) (g:=fun x=>((P.set i ((P.pg i).take c ((P.pg i).gap c) fun _=>0)).pg x).count) hi (fun j hj e=>by simp only [Pl.aU _ _ e]);simp only [Pl.aP] at this;have e2:((P.pg i).take c ((P.pg i).gap c) fun _=>0).count=(P.pg i).count+1:=aBi (by omega) hg.2;rw [e2] at this;show lN (fun x=>((P.set i ((P.pg i).take c ((P.pg i).gap c) fun _=>0)).pg x).count) P.n=P.all+1;unfold Pl.all;omega
 ·rw [Pl.iC hcl hn hi hp hb];have hg:=(h i hi).ge;have hu:=(h i hi).free (by omega) 0;have:=rQ (f:=fun x=>(P.pg x).count) (g:=fun x=>((P.set i ((P.pg i).take c 0 fun _=>0)).pg x).count) hi (fun j hj e=>by simp only [Pl.aU _ _ e]);simp only [Pl.aP] at this;have e2:((P.pg i).take c 0 fun _=>0).count=(P.pg i).count+1:=aBi (by omega) hu;rw [e2] at this;show lN (fun x=>((P.set i ((P.pg i).take c 0 fun _=>0)).pg x).count) P.n=P.all+1;unfold Pl.all;omega
 rw [Pl.fD hcl hn hf] at he;cases he
theorem Pl.aJJ {c a:Int} {v:Nat->Int} (hc:IsC c) (hb:Blk P c a v):(P.free a).2.all+1=P.all:=by
 have hbg:=hb.begin hc;obtain ⟨i,l,rfl,hh0⟩:=hb;have hr:=hc.blk hh0.kb;have hdm:=hc.mul_div l;have s:=hc.sz;have hkb:=hh0.kb;have t1:(((16*i+l*bsz c:Nat):Int)).toNat / 16=i:=by rw [Int.toNat_natCast];omega
 have t2:(((16*i+l*bsz c:Nat):Int)).toNat % 16=l*bsz c:=by rw [Int.toNat_natCast];omega
 unfold Pl.free;rw [hbg];simp only [if_true,t1,t2];rw [hh0.cls,hdm.1];have:=rQ (f:=fun x=>(P.pg x).count) (g:=fun x=>((P.set i ((P.pg i).release l)).pg x).count) hh0.hi (fun j hj e=>by simp only [Pl.aU _ _ e]);simp only [Pl.aP] at this;have e2:((P.pg i).release l).count+1=(P.pg i).count:=yQ (by omega) hh0.used;show lN (fun x=>((P.set i ((P.pg i).release l)).pg x).count) P.n+1=P.all;unfold Pl.all;omega
theorem Pl.aLT (h:P.ok):P.move.2.2.2.all=P.all:=by
 cases hp:P.pair with
 | none=>rw [Pl.fJ hp]
 | some x=>
  obtain ⟨i,j⟩:=x;have hp2:=Pl.iW hp;rw [Pl.fH hp];show (P.moved i j).all=P.all;have hn:=(h.moved hp2).2;rw [<-Pl.aFl (h.moved hp2).1,<-Pl.aFl h,hn,Pl.rP h hp2 0 (.inl rfl),Pl.rP h hp2 1 (.inr (.inl rfl)),Pl.rP h hp2 2 (.inr (.inr rfl))]
theorem aHi (hok:P.ok) {l:List Int} (hl:∀ m,m<l.length->IsC (gI l m)):∀ k,k<=l.length->∀ bs Q,dK P l k=some (bs,Q)->Q.all=P.all+k:=by
 intro k
 induction k with
 | zero=>
  intro _ bs Q e;unfold dK at e
  cases e
  rfl
 | succ k ih=>
  intro hk bs Q e;unfold dK at e
  cases e1:dK P l k with
  | none=>rw [e1] at e;cases e
  | some x=>
   obtain ⟨bs',Q'⟩:=x;rw [e1] at e;simp only at e;split at e
   ·rename_i he
    cases e
    have s:=dS hok hl k (by omega) bs' Q' e1;rw [Pl.aJK s.ok he,ih (by omega) bs' Q' e1];omega
   cases e
theorem aKI (hok:P.ok) (a:Int) (l:List Int) (k:Nat):(uQ P a l k).all=P.all:=by
 induction k with
 | zero=>rfl
 | succ k ih=>unfold uQ;rw [Pl.lM (aBU hok a l k).1,ih]
theorem aIO (hok:P.ok) (h:Int) (bs:List Int):(fK P h bs).all=P.all:=by
 unfold fK;rw [aKI (hok.setCell _ _).1,Pl.lM hok]
theorem aJm {l:List Int} {cs:List Int} (hc:∀ m,m<l.length->IsC (gI cs m)) (hb:∀ m,m<l.length->∃ v,Blk P (gI cs m) (gI l m) v) (hd:∀ m,m<l.length->∀ m',m'<l.length->gI l m=gI l m'->m=m') :
  ∀ k,k<=l.length->(iE P l k).all+k=P.all:=by
 intro k
 induction k with
 | zero=>intro _;rfl
 | succ k ih=>
  intro hk;obtain ⟨v,hv⟩:=hb k (by omega);have h1:Blk (iE P l k) (gI cs k) (gI l k) v:=yI (hc k (by omega)) hv (fun m hm e=>by have:=hd m (by omega) k (by omega) e;omega);have:=Pl.aJJ (hc k (by omega)) h1;have:=ih (by omega);show ((iE P l k).free (gI l k)).2.all+(k+1)=P.all;omega
end
def aDj (o:Option Th):Nat:=match o with|none=>0|some o=>o.blocks.length
def uS (ob:Int->Option Th):Nat:=lN (fun k=>aDj (ob ((k:Int)+1))) 192
theorem qI {ob:Int->Option Th} {h:Int} (h1:1<=h/\h<=192) (x:Option Th):uS (dX ob h x)+aDj (ob h)=uS ob+aDj x:=by
 obtain ⟨i,hi,rfl⟩:∃ i:Nat,i<192/\h=(i:Int)+1:=⟨(h - 1).toNat,by omega,by omega⟩;have:=rQ (f:=fun k=>aDj (ob ((k:Int)+1))) (g:=fun k=>aDj (dX ob ((i:Int)+1) x ((k:Int)+1))) hi (fun j hj e=>by show aDj (dX ob ((i:Int)+1) x ((j:Int)+1))=aDj (ob ((j:Int)+1));rw [bD _ _ (by omega)]);simp only [aZ] at this;exact this
def Hp.Full (M:Hp):Prop:=M.P.all=uS M.ob
structure Hp.OkF (M:Hp):Prop where
 ok:M.Ok
 full:M.Full
section
variable {M:Hp} {h:Int} {o:Th}
theorem Hp.OkF.new {n:Nat} (h1:1<=n) (h24:n<=24):(Hp.new n).OkF:=⟨Hp.Ok.new h1 h24,by
 show lN (fun i=>Pg.zero.count) n=lN (fun k=>0) 192;have e1:lN (fun i=>Pg.zero.count) n=0:=pW.2 (fun i _=>nZ (fun _ _=>rfl));have e2:lN (fun k=>0) 192=0:=pW.2 (fun i _=>rfl);rw [e1,e2]⟩
theorem Hp.OkF.add (hk:M.OkF) (ho:o.ok1) (hz:∀ s,gI o.slots s=0):(M.add o).2.2.OkF:=by
 refine ⟨hk.ok.add ho hz,?_⟩;unfold Hp.add;split
 ·rename_i hl;have hnone:=M.nU hl
  cases e:dK M.P (aT o.slots.length) (aT o.slots.length).length with
  | none=>exact hk.full
  | some x=>
   obtain ⟨bs,Q⟩:=x;have s:=dS hk.ok.p (l:=aT o.slots.length) (fun m hm=>dJ _ hm) _ (Nat.le_refl _) bs Q e;have ha:=aHi hk.ok.p (l:=aT o.slots.length) (fun m hm=>dJ _ hm) _ (Nat.le_refl _) bs Q e;have hs:=qI (ob:=M.ob) (h:=(M.least:Int)+1) (by omega) (some { o with blocks:=bs });rw [hnone] at hs;have hf:M.P.all=uS M.ob:=hk.full;show (fK Q ((M.least:Int)+1) bs).all=uS (dX M.ob ((M.least:Int)+1) (some { o with blocks:=bs }));rw [aIO s.ok];have e2:aDj (some ({ o with blocks:=bs }:Th))=bs.length:=rfl;have e3:aDj none=0:=rfl;have:=s.len;omega
 exact hk.full
theorem Hp.OkF.aH (hk:M.OkF) (c:Int) (refs:List Bool):(M.aH c refs).2.2.OkF:=by
 unfold Hp.aH;split
 ·exact hk
 rename_i hc;exact hk.add (oP hc).1 (oP hc).2
theorem Hp.OkF.aG (hk:M.OkF) (k c n:Int):(M.aG k c n).2.2.OkF:=by
 unfold Hp.aG;split
 ·exact hk
 rename_i hc;split
 ·rename_i hd;exact hk.add (pF hc hd).1 (pF hc hd).2
 exact hk
theorem Hp.OkF.release (hk:M.OkF) (h:Int):(M.release h).2.OkF:=by
 refine ⟨hk.ok.release h,?_⟩;unfold Hp.release
 cases e:M.ob h with
 | none=>exact hk.full
 | some o=>
  simp only;split
  ·exact hk.full
  have hr:=hk.ok.hr h o e;have hs:=qI (ob:=M.ob) hr none;have hl:=aJm (P:=M.P) (l:=o.blocks) (cs:=aT o.slots.length) (fun m hm=>hk.ok.isC e hm) (fun m hm=>⟨_,hk.ok.bk h o e m hm⟩) (fun m hm m' hm' e2=>(hk.ok.dj h o e h o e m hm m' hm' e2).2) _ (Nat.le_refl _);have hf:M.P.all=uS M.ob:=hk.full;show (iE M.P o.blocks o.blocks.length).all=uS (dX M.ob h none);rw [e] at hs;have e2:aDj (some o)=o.blocks.length:=rfl;have e3:aDj none=0:=rfl;omega
theorem Hp.OkF.set (hk:M.OkF) (h s v:Int):(M.set h s v).2.OkF:=by
 refine ⟨hk.ok.set h s v,?_⟩;unfold Hp.set
 cases e:M.ob h with
 | none=>exact hk.full
 | some o=>
  simp only;split
  ·exact hk.full
  split
  ·have hr:=hk.ok.hr h o e;have hs:=qI (ob:=M.ob) hr (some (o.put s.toNat v));have hf:M.P.all=uS M.ob:=hk.full;show ((M.P.setCell (o.addr s.toNat) v).2).all=uS (dX M.ob h (some (o.put s.toNat v)));rw [Pl.lM hk.ok.p];rw [e] at hs;have e2:aDj (some o)=o.blocks.length:=rfl;have e3:aDj (some (o.put s.toNat v))=o.blocks.length:=rfl;omega
  exact hk.full
theorem Hp.OkF.move (hk:M.OkF):M.move.2.2.OkF:=by
 refine ⟨hk.ok.move,?_⟩;have hm:=Pl.aLT hk.ok.p;have hf:M.P.all=uS M.ob:=hk.full;unfold Hp.move;split
 ·split
  ·rename_i o eo hd;have hd2:M.owner M.P.move.1<192:=by simpa using hd
   have hs:=qI (ob:=M.ob) (h:=(M.owner M.P.move.1:Int)+1) (by omega) (some (o.moved (o.place M.P.move.1) M.P.move.2.1));rw [eo] at hs;have e2:aDj (some o)=o.blocks.length:=rfl;have e3:aDj (some (o.moved (o.place M.P.move.1) M.P.move.2.1))=o.blocks.length:=by
    show (o.blocks.set _ _).length=_;simp
   show (if _ then M.P.move.2.2.2 else _).all=uS (dX M.ob _ _);split
   ·omega
   rw [Pl.lM hk.ok.p.move.1];omega
  show M.P.move.2.2.2.all=uS M.ob;omega
 exact hk.full
end
end Go.Proofs.YthflghdaejbdkaaGreat
