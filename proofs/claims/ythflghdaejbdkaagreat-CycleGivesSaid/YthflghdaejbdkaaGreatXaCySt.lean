/- Lemmas of this claim. -/
import Derived.Test.YthflghdaejbdkaaGreatXaCyM
import Derived.Test.YthflghdaejbdkaaGreatXaCyStar
import Derived.Test.YthflghdaejbdkaaGreatXaOFull
namespace Go.Proofs.YthflghdaejbdkaaGreat
open Go.RowKit Go.Maps
set_option maxHeartbeats 12800000
set_option maxRecDepth 100000
set_option linter.unusedVariables false
theorem aOB {y z:Int}:¬ (y<1\/24<y\/z<0\/100<z)↔(1<=y/\y<=24)/\0<=z/\z<=100:=by omega
theorem aMO {a b c:World} (y:Only [] a b) (z:Only [] b c):Below a.heap.size a c:=(y.trans z (by simp)).bel
end Go.Proofs.YthflghdaejbdkaaGreat
namespace Go.Proofs.YthflghdaejbdkaaGreat
set_option linter.unusedVariables false
set_option maxRecDepth 100000
theorem qU (P:Pl) (a n:Int):(P.setCell a n).2.n=P.n:=by unfold Pl.setCell;split<;>rfl
theorem aPu (P:Pl) (a:Int):(P.free a).2.n=P.n:=by
 unfold Pl.free;split
 ·split<;>rfl
 rfl
theorem aNY (P:Pl) (c:Int):(P.alloc c).2.2.n=P.n:=by
 unfold Pl.alloc;split
 ·rfl
 simp only;split
 ·rfl
 split<;>rfl
theorem aFl (P:Pl) (l:List Int):∀ k bs Q,dD P l k=some (bs,Q)->Q.n=P.n
 | 0,bs,Q,h=>by unfold dD at h;cases h;rfl
 | k+1,bs,Q,h=>by
  unfold dD at h
  cases e:dD P l k with
  | none=>rw [e] at h;cases h
  | some r=>
   obtain ⟨z,y⟩:=r;rw [e] at h;simp only at h;split at h
   ·cases h;exact (aNY _ _).trans (aFl P l k z y e)
   cases h
theorem aNe (P:Pl) (a:Int) (l:List Int):∀ k,(vH P a l k).n=P.n
 | 0=>rfl
 | k+1=>(qU _ _ _).trans (aNe P a l k)
theorem aPv (M:Hp) (o:Th):(M.add o).2.2.P.n=M.P.n:=by
 unfold Hp.add;split
 ·cases e:dD M.P (aS o.slots.length) (aS o.slots.length).length with
  | none=>rfl
  | some r=>
   obtain ⟨bs,Q⟩:=r;show (fO Q _ bs).n=_;unfold fO;rw [aNe,qU];exact aFl _ _ _ _ _ e
 rfl
theorem xW (M:Hp) (c:Int) (l:List Bool):(M.aH c l).2.2.P.n=M.P.n:=by
 unfold Hp.aH;split
 ·rfl
 exact aPv M _
theorem aAt (M:Hp) (k c n:Int):(M.aG k c n).2.2.P.n=M.P.n:=by
 unfold Hp.aG;split
 ·rfl
 split
 ·exact aPv M _
 rfl
theorem aNX (M:Hp) (h s v:Int):(M.set h s v).2.P.n=M.P.n:=by
 unfold Hp.set;split
 ·rfl
 split
 ·rfl
 split
 ·exact qU _ _ _
 rfl
theorem aIV (P:Pl) (l:List Int):∀ k,(iH P l k).n=P.n
 | 0=>rfl
 | k+1=>(aPu _ _).trans (aIV P l k)
theorem aIU (M:Hp) (h:Int):(M.release h).2.P.n=M.P.n:=by
 unfold Hp.release;split
 ·rfl
 split
 ·rfl
 exact aIV _ _ _
theorem aEl (P:Pl):P.move.2.2.2.n=P.n:=by
 cases y:P.pair with
 | none=>rw [Pl.fF y]
 | some x=>obtain ⟨i,j⟩:=x;rw [Pl.fE y];rfl
theorem aPt (M:Hp):M.move.2.2.P.n=M.P.n:=by
 unfold Hp.move;split
 ·split
  ·unfold Hp.fG;show (if _ then _ else _:Pl).n=_;split
   ·exact aEl _
   exact (qU _ _ _).trans (aEl _)
  exact aEl _
 rfl
theorem aBk (M:Hp) (h:Int):∀ k,(M.bK h k).P.n=M.P.n
 | 0=>rfl
 | k+1=>by
  unfold Hp.bK;split
  ·exact (aNX _ _ _ _).trans (aBk M h k)
  exact aBk M h k
theorem aFk (M:Hp) (l:List Int):∀ k,(M.dB l k).P.n=M.P.n
 | 0=>rfl
 | k+1=>(aBk _ _ _).trans (aFk M l k)
def Co.Pn (c:Co):Prop:=c.m.M.P.n=c.pages
section
variable {c:Co}
theorem Co.Pn.of (h:c.Pn) {d:Co} (z:d.pages=c.pages) (y:d.m.M.P.n=c.m.M.P.n):d.Pn:=by unfold Co.Pn;rw [z,y];exact h
theorem Co.Pn.mark (h:c.Pn):c.mark.2.Pn:=h.of rfl (by show c.m.step.2.2.M.P.n=_;rw [Mk.oP])
theorem Co.Pn.dR (h:c.Pn) (s:List Int):(c.dR s).2.Pn:=h.of rfl (aFk _ _ _)
theorem Co.Pn.tail (h:c.Pn):c.tail.2.Pn:=by
 unfold Co.tail;split
 ·exact h.dR _
 exact h.mark
theorem Co.Okc.aNB (h:c.Okc) (y:c.ph=2):c.stepT.m.M=c.m.M:=(h.tg.step (h.mo (.inr y))).2.2.1
theorem Co.Pn.step (h:c.Pn) (z:c.Okc):c.step.2.2.Pn:=by
 unfold Co.step;split
 ·exact h
 split
 ·split
  ·exact h.of rfl rfl
  exact h.mark
 split
 ·rename_i d;show c.refs.2.Pn;rw [Co.fD];have y:c.stepT.Pn:=h.of rfl (by rw [z.aNB d]);split
  ·exact y
  exact y.tail
 split
 ·show c.free.2.Pn;unfold Co.free;split
  ·exact h.of rfl rfl
  exact h.of rfl (aIU _ _)
 show c.move.2.Pn;unfold Co.move;split
 ·exact h.of rfl rfl
 exact h.of rfl (aPt _)
theorem Co.Pn.steps (h:c.Pn) (y:c.Okc):∀ k,(Co.steps k c).Pn
 | 0=>h
 | k+1=>(Co.Pn.steps h y k).step (y.steps k)
theorem Co.Pn.zK (h:c.Pn) (n:Int):({ c with cr:=n }:Co).Pn:=h
theorem Co.Pn.pays (h:c.Pn) (d:c.Okc):∀ k,(∀ j,j<k->¬ (Co.pays j c).stops)->(Co.pays k c).Pn
 | 0,_=>h
 | k+1,hs=>by
  have y:=Co.Pn.pays h d k (fun j hj=>hs j (by omega));have z:=(Co.pG d k (fun j hj=>hs j (by omega))).1;have hn:=hs k (by omega);have hp:(Co.pays k c).ph≠0:=fun e=>hn (.inl e);have hc:=z.cost hp;have h0:(Co.pays k c).step.1<=(Co.pays k c).cr:=by
   rcases Int.lt_or_le (Co.pays k c).cr (Co.pays k c).step.1 with y|y
   ·exact absurd (.inr y) hn
   exact y
  exact (y.zK _).step (z.zK hp (n:=(Co.pays k c).cr - (Co.pays k c).step.1) (by omega))
theorem Co.Pn.give (h:c.Pn) (z:c.Okc) {n:Int} (d:0<=n):(c.give n).2.Pn:=by
 unfold Co.give;split
 ·exact h
 rename_i e;have y:=z.more e d;exact Co.Pn.pays (c:=c.more n) h y _ (Co.dI y).2.1
theorem Co.Pn.eF (h:c.Pn) (y:c.Okc) (n:Int):(c.eF n).2.2.Pn:=by
 unfold Co.eF;split
 ·exact h
 exact h.give y (by omega)
theorem Co.Pn.newObj (h:c.Pn) (k:Int) (l:List Bool):(c.newObj k l).2.2.Pn:=by
 unfold Co.newObj;split
 ·exact h.of rfl (by show (c.m.made (c.m.M.aH k l)).2.2.M.P.n=_;rw [aFo];exact xW _ _ _)
 exact h.of rfl (xW _ _ _)
theorem Co.Pn.dU (h:c.Pn) (k a n:Int):(c.dU k a n).2.2.Pn:=by
 unfold Co.dU;split
 ·exact h.of rfl (by show (c.m.made (c.m.M.aG k a n)).2.2.M.P.n=_;rw [aFo];exact aAt _ _ _ _)
 exact h.of rfl (aAt _ _ _ _)
theorem Co.Pn.aH (h:c.Pn) (y:c.Okc) (k:Int) (l:List Bool):(c.aH k l).2.2.Pn:=by
 unfold Co.aH;split
 ·exact h
 exact (h.give y y.rt.1).newObj k l
theorem Co.Pn.aG (h:c.Pn) (y:c.Okc) (k a n:Int):(c.aG k a n).2.2.Pn:=by
 unfold Co.aG;split
 ·exact h
 rename_i d;have z:=uQ (n:=n) (by omega) (by omega);exact (h.give y (Int.mul_nonneg y.rt.1 (by omega))).dU k a n
theorem Co.Pn.store (h:c.Pn) (a s v:Int):(c.store a s v).2.Pn:=by
 unfold Co.store;split
 ·exact h
 split
 ·exact h.of rfl (by show (c.m.store a s v).2.M.P.n=_;rw [aIf];exact aNX _ _ _ _)
 exact h.of rfl (aNX _ _ _ _)
theorem Co.Pn.refer (h:c.Pn) (k x g:Int):(c.refer k x g).2.2.Pn:=by
 unfold Co.refer;split
 ·exact h
 exact h.of rfl rfl
theorem Co.Pn.target (h:c.Pn) (i:Int):(c.target i).2.2.Pn:=by
 unfold Co.target;split
 ·exact h
 split
 ·exact h
 show (if c.ph=1 then _ else _:Co).Pn;split
 ·exact h.of rfl (by show (c.m.bH _).M.P.n=_;rw [Mk.mG])
 exact h
theorem Co.Pn.begin (h:c.Pn) (l:List Int):(c.begin l).2.Pn:=by
 unfold Co.begin;split
 ·exact h
 split
 ·exact h
 split
 ·exact h
 exact h.of rfl (by show ((Mk.start c.m.M).bC l).M.P.n=_;rw [Mk.nT];rfl)
theorem Co.Pn.new (n:Nat) (r:Int):(Co.new n r).Pn:=rfl
theorem Co.Pn.take (h:c.Pn):c.take.2.2.Pn:=h
theorem Co.Pn.finish (h:c.Pn) (y:c.Okc):c.finish.2.2.2.Pn:=by
 unfold Co.finish;split
 ·exact h
 exact h.steps y _
end
theorem aMB (t:Tb) (m:Mk) (i:Nat):(t.clear m i).1.ents.length=t.ents.length:=by
 unfold Tb.clear;simp only;split
 ·split
  ·show (t.ents.set _ _).length=_;rw [List.length_set]
  rfl
 split
 ·show (t.ents.set _ _).length=_;rw [List.length_set]
 rfl
theorem aNx (t:Tb) (m:Mk):(t.step m).2.2.2.1.ents.length=t.ents.length:=by
 unfold Tb.step;split
 ·rfl
 simp only;split
 ·show ((t.settle m).settle _).ents.length=_;rw [Tb.gV.1,Tb.gV.1]
 split
 ·show (t.settle m).ents.length=_;rw [Tb.gV.1]
 show ((((t.settle m).clear m (t.settle m).nx).1.at _ _).settle _).ents.length=_;rw [Tb.gV.1];show ((t.settle m).clear m (t.settle m).nx).1.ents.length=_;rw [aMB,Tb.gV.1]
structure Kp (c d:Co):Prop where
 pg:d.pages=c.pages
 rt:d.rate=c.rate
 el:d.t.ents.length=c.t.ents.length
variable {c d e:Co}
theorem Kp.refl (c:Co):Kp c c:=⟨rfl,rfl,rfl⟩
theorem Kp.trans (h:Kp c d) (y:Kp d e):Kp c e:=⟨y.pg.trans h.pg,y.rt.trans h.rt,y.el.trans h.el⟩
theorem Kp.tail (c:Co):Kp c c.tail.2:=by
 unfold Co.tail;split
 ·unfold Co.jC;generalize c.m.white=s;exact ⟨rfl,rfl,rfl⟩
 exact ⟨rfl,rfl,rfl⟩
theorem Kp.stepT (c:Co):Kp c c.stepT:=⟨rfl,rfl,aNx c.t c.m⟩
theorem Kp.step (c:Co):Kp c c.step.2.2:=by
 unfold Co.step;split
 ·exact Kp.refl c
 split
 ·split
  ·refine ⟨rfl,rfl,?_⟩;show (c.t.begin c.m).2.ents.length=_;unfold Tb.begin;split
   ·rfl
   show ((c.t.at 1 0).settle c.m).ents.length=_;rw [Tb.gV.1];rfl
  exact ⟨rfl,rfl,rfl⟩
 split
 ·show Kp c c.refs.2;rw [Co.fD];split
  ·exact Kp.stepT c
  exact (Kp.stepT c).trans (Kp.tail _)
 split
 ·show Kp c c.free.2;unfold Co.free;split<;>exact ⟨rfl,rfl,rfl⟩
 show Kp c c.move.2;unfold Co.move;split<;>exact ⟨rfl,rfl,rfl⟩
theorem Kp.steps (c:Co):∀ k,Kp c (Co.steps k c)
 | 0=>Kp.refl c
 | k+1=>(Kp.steps c k).trans (Kp.step _)
theorem Kp.pay (c:Co):Kp c c.pay:=(show Kp c { c with cr:=c.cr - c.step.1 } from ⟨rfl,rfl,rfl⟩).trans (Kp.step _)
theorem Kp.pays (c:Co):∀ k,Kp c (Co.pays k c)
 | 0=>Kp.refl c
 | k+1=>(Kp.pays c k).trans (Kp.pay _)
theorem Kp.give (c:Co) (n:Int):Kp c (c.give n).2:=by
 unfold Co.give;split
 ·exact Kp.refl c
 exact (show Kp c (c.more n) from ⟨rfl,rfl,rfl⟩).trans (Kp.pays _ _)
theorem Kp.eF (c:Co) (n:Int):Kp c (c.eF n).2.2:=by
 unfold Co.eF;split
 ·exact Kp.refl c
 exact Kp.give c n
theorem Kp.finish (c:Co):Kp c c.finish.2.2.2:=by
 unfold Co.finish;split
 ·exact Kp.refl c
 exact Kp.steps c _
theorem Kp.newObj (c:Co) (k:Int) (l:List Bool):Kp c (c.newObj k l).2.2:=by
 unfold Co.newObj;split<;>exact ⟨rfl,rfl,rfl⟩
theorem Kp.dU (c:Co) (k a n:Int):Kp c (c.dU k a n).2.2:=by
 unfold Co.dU;split<;>exact ⟨rfl,rfl,rfl⟩
theorem Kp.aH (c:Co) (k:Int) (l:List Bool):Kp c (c.aH k l).2.2:=by
 unfold Co.aH;split
 ·exact Kp.refl c
 exact (Kp.give c _).trans (Kp.newObj _ k l)
theorem Kp.aG (c:Co) (k a n:Int):Kp c (c.aG k a n).2.2:=by
 unfold Co.aG;split
 ·exact Kp.refl c
 exact (Kp.give c _).trans (Kp.dU _ k a n)
theorem Kp.store (c:Co) (a s v:Int):Kp c (c.store a s v).2:=by
 unfold Co.store;split
 ·exact Kp.refl c
 split<;>exact ⟨rfl,rfl,rfl⟩
theorem Kp.target (c:Co) (i:Int):Kp c (c.target i).2.2:=by
 unfold Co.target;split
 ·exact Kp.refl c
 split
 ·exact Kp.refl c
 show Kp c (if c.ph=1 then _ else c);split<;>exact ⟨rfl,rfl,rfl⟩
theorem Kp.take (c:Co):Kp c c.take.2.2:=⟨rfl,rfl,congrArg List.length (wR c.t).1⟩
theorem Kp.begin (c:Co) (l:List Int):Kp c (c.begin l).2:=by
 unfold Co.begin;split
 ·exact Kp.refl c
 split
 ·exact Kp.refl c
 split<;>exact ⟨rfl,rfl,rfl⟩
theorem aLv (c:Co) (k x g:Int):(c.refer k x g).2.2.pages=c.pages/\(c.refer k x g).2.2.rate=c.rate/\(c.refer k x g).2.2.t.ents.length<=c.t.ents.length+1:=by
 unfold Co.refer;split
 ·exact ⟨rfl,rfl,Nat.le_succ _⟩
 refine ⟨rfl,rfl,?_⟩;show (c.t.add c.m k _ g).2.2.ents.length<=_;generalize (if c.hid x then 0 else x:Int)=y;unfold Tb.add;split
 ·exact Nat.le_succ _
 split
 ·exact Nat.le_succ _
 split
 ·exact Nat.le_succ _
 split
 ·exact Nat.le_succ _
 show (c.t.ents ++ [_]).length<=_;rw [List.length_append];exact Nat.le_refl _
theorem aKe (c:Co) (d a x y:Int):(c.deed d a x y).pages=c.pages/\(c.deed d a x y).rate=c.rate/\(c.deed d a x y).t.ents.length<=c.t.ents.length+if d=8 then 1 else 0:=by
 have z:∀ e:Co,Kp c e->e.pages=c.pages/\e.rate=c.rate/\e.t.ents.length<=c.t.ents.length+if d=8 then 1 else 0:=fun e h=>⟨h.pg,h.rt,by have:=h.el;omega⟩;unfold Co.deed;split;exact z _ (Kp.aH _ _ _);split;exact z _ (Kp.aG _ _ _ _);split;exact z _ (Kp.store _ _ _ _);split;exact z _ (Kp.step _);split;exact z _ (Kp.eF _ _);split;exact z _ (Kp.finish _);split;exact z _ (Kp.begin _ _);split;exact z _ (Kp.refl _);split
 ·exact aLv _ _ _ _
 have h0:∀ e:Co,Kp c e->e.pages=c.pages/\e.rate=c.rate/\e.t.ents.length<=c.t.ents.length+0:=fun e h=>⟨h.pg,h.rt,by have:=h.el;omega⟩;split;exact h0 _ (Kp.target _ _);exact h0 _ (Kp.take _)
theorem Co.Pn.deed (h:c.Pn) (z:c.Okc) (d a x y:Int):(c.deed d a x y).Pn:=by
 unfold Co.deed;split;exact h.aH z _ _;split;exact h.aG z _ _ _;split;exact h.store _ _ _;split;exact h.step z;split;exact h.eF z _;split;exact h.finish z;split;exact h.begin _;split;exact h;split;exact h.refer _ _ _;split;exact h.target _;exact h.take
def aMz (f:Nat->Nat->Int):Nat->Nat
 | 0=>0
 | k+1=>aMz f k+if f k 0=8 then 1 else 0
structure Std (n:Nat) (rate:Int) (k:Nat) (c:Co):Prop where
 ok:c.Ok
 pn:c.Pn
 pg:c.pages=n
 rt:c.rate=rate
 el:c.t.ents.length<=k
theorem Std.new (n:Nat) (r:Int) (z:1<=n) (y:n<=24) (d:0<=r/\r<=100):Std n r 0 (Co.new n r):=⟨Co.Ok.new z y d,Co.Pn.new n r,rfl,rfl,Nat.le_refl _⟩
variable {n:Nat} {rate:Int} {f:Nat->Nat->Int} {k:Nat}
theorem Std.deed (h:Std n rate (aMz f k) c) (a x y:Int):Std n rate (aMz f (k+1)) (c.deed (f k 0) a x y):=by
 obtain ⟨z,d,e⟩:=aKe c (f k 0) a x y;refine ⟨h.ok.deed _ _ _ _,h.pn.deed h.ok.k _ _ _ _,z.trans h.pg,d.trans h.rt,?_⟩;have:=h.el;show _<=aMz f k+_;omega
theorem Std.finish (h:Std n rate k c):Std n rate k c.finish.2.2.2/\c.finish.2.2.2.ph=0:=by
 have y:=Kp.finish c;exact ⟨⟨h.ok.finish.1,h.pn.finish h.ok.k,y.pg.trans h.pg,y.rt.trans h.rt,by rw [y.el];exact h.el⟩,h.ok.finish.2⟩
end Go.Proofs.YthflghdaejbdkaaGreat
namespace Go.Proofs.YthflghdaejbdkaaGreat
open Go.RowKit Go.Maps
set_option maxHeartbeats 12800000
set_option maxRecDepth 100000
set_option linter.unusedVariables false
section
variable {w0 w:World} {l:List Asn} {b:Nat} {c:Co} {i:Nat}
theorem GoA.stage (z:Fam w0 w l) (d:l[i]?=some (GoA b c)):w.cell? ⟨b,3,none⟩=some (.int .i64 (c.ph:Int)):=by
 obtain ⟨x,hx,y⟩:=GoA.open z d;exact (aZ.cells y).2.2.2.1
theorem GoA.lives (d:Fam w0 w l) (hi:l[i]?=some (GoA b c)):∃ q,w.cell? ⟨b,0,none⟩=some (.pointer (some ⟨q,0,none⟩))/\∀ y:Int,Calls Tryz.prog 58 #[.pointer (some ⟨q,0,none⟩),.int .i64 y] w (fun e w'=>e=.returned (.bool (c.m.M.ob y).isSome)/\Only [] w w'):=by
 obtain ⟨x,hx,z⟩:=GoA.open d hi;obtain ⟨hk,L,X,hg⟩:=G5.gh z;exact ⟨x.q,(aZ.cells z).1,fun y=>jO w hg hk y⟩
theorem aKj (y:Fam w0 w l) (z:l[i]?=some (CoA b c)) (d:c.ph=0):Calls Tryz.prog 53 #[.pointer (some ⟨b,0,none⟩)] w (aO w (.int .i64 0)):=by
 have:=iU w y z;rw [d] at this;exact this
end
theorem aDs (y z:Int) (la:Option Addr) (ln lc:Nat) (w:World) (d:y<1\/24<y\/z<0\/100<z) :
  Calls Tryz.prog 56 #[.int .i64 y,.int .i64 z,.slice la ln lc] w fun e w'=>e=.returned (.tuple #[.pointer none,.pointer none])/\Only [] w w':=by
 refine aF fun R hR=>?_;have c1:=aMA w y z d;have h3:=aA d;clear d;go_in;go_wp2_with fail;refine c1.mono ?_;rintro e w1 ⟨rfl,h1⟩;have c2:=aJD w1 y z h3.out;have h0:=aA h1;clear c1 h1;go_wp2_with fail;refine c2.mono ?_;rintro e w2 ⟨rfl,h2⟩;have h4:Hid (Only [] w w2):=h0.out.trans h2 (by simp);clear c2 h2 h0;go_wp2;exact hR.out _ _ ⟨rfl,h4.out⟩
theorem aBB (n:Nat) (y:Int) (la:Option Addr) (d lc:Nat) (f:Nat->Nat->Int) (w:World) (h1:1<=n) (h3:n<=24) (hr:0<=y/\y<=100) (hd:Recs 4 w la d f) :
  Calls Tryz.prog 56 #[.int .i64 (n:Int),.int .i64 y,.slice la d lc] w fun e w'=>∃ b g c,e=.returned (.tuple #[.pointer (some ⟨b,0,none⟩),.pointer (some ⟨g,0,none⟩)])/\Fam w w' (P2 b g c c [])/\Std n y (aMz f (min d 60)) c/\c.ph=0:=by
 refine aF fun R hR=>?_;have c1:=aDu w (Fam.nil w) n y h1 h3 hr;have c2:Hid (∀ wx b,Fam w wx [CoA b (Co.new n y)]->Calls Tryz.prog 36 #[.int .i64 (n:Int),.int .i64 y] wx (fun e w'=>∃ g,e=.returned (.tuple #[.pointer (some ⟨g,0,none⟩),.int .i64 0])/\Fam w w' (P2 b g (Co.new n y) (Co.new n y) []))):=fun wx b hx=>aHb wx hx n y h1 h3 hr;have h8:=aA (Std.new n y h1 h3 hr);have HD:=aA hd;clear hd h1 h3 hr;generalize Co.new n y=c0 at*;go_in;go_wp2_with fail;refine c1.mono ?_;rintro e w1 ⟨b,rfl,x1⟩;have h9:=c2.out w1 b x1;clear c1 c2 x1;go_wp2_with fail;refine h9.mono ?_;rintro e w2 ⟨g,rfl,x2⟩;have h7:=aA x2;clear h9 x2;go_wp2;go_loopw [12] (fun iv wr=>∃ (x:Nat) (c:Co),x<=d/\x<=60/\iv=.int .i64 x/\Fam w wr (P2 b g c c [])/\Hid (Std n y (aMz f x) c)) (fun iv _=>d - (intOf iv).toNat)
 case atStart=>exact ⟨0,c0,by omega,by omega,rfl,h7.out,h8⟩
 case round=>as_aux_lemma=>
  clear h7 h8;obtain ⟨x,c,hx,x9,rfl,hF,HC⟩:=hrel;have z:=aA hF;clear hF
  by_cases h6:x<d/\x<60
  ·obtain ⟨h6,y0⟩:=h6;have x7:(x:Int)<d:=by omega
   have y2:(0:Int)<=x:=by omega
   have x8:(x:Int)<60:=by omega
   rcases HD.out.2 with h0|⟨bb,oo,rfl,hc⟩
   ·omega
   have c0:=z.out.cell (hc x (by omega) 0 (by omega)).1;have c1:=z.out.cell (hc x (by omega) 1 (by omega)).1;have c2:=z.out.cell (hc x (by omega) 2 (by omega)).1;have c3:=z.out.cell (hc x (by omega) 3 (by omega)).1;rw [Nat.add_zero] at c0;rw [<-Nat.add_assoc] at c1 c2 c3;have wa:=(hc x (by omega) 1 (by omega)).2;have wb:=(hc x (by omega) 2 (by omega)).2;have wc:=(hc x (by omega) 3 (by omega)).2;have cd:=aOw _ z.out HC.out.ok (f x 0) (f x 1) (f x 2) (f x 3) wa wb wc;have x4:Hid (Std n y (aMz f (x+1)) (c.deed (f x 0) (f x 1) (f x 2) (f x 3))):=HC.out.deed _ _ _;generalize c.deed (f x 0) (f x 1) (f x 2) (f x 3)=c' at*;generalize f x 0=d0 at*;generalize f x 1=d1 at*;generalize f x 2=d2 at*;generalize f x 3=d3 at*;clear hc wa wb wc;go_wp2_with fail;refine cd.mono ?_;rintro e w3 ⟨rfl,h2⟩;have x5:=aA h2;clear cd h2 c0 c1 c2 c3 z;go_wp2;exact ⟨⟨x+1,c',by omega,by omega,by go_num,x5.out,x4⟩,by simp [intOf];omega⟩
  have HX:Hid (Std n y (aMz f (min d 60)) c):=by
   have e:min d 60=x:=by omega
   rw [e];exact HC.out
  have hl:((x:Int)<d/\¬ (x:Int)<60)\/(¬ (x:Int)<d/\True):=by
   by_cases e:x<d
   ·exact .inl ⟨by omega,by omega⟩
   exact .inr ⟨by omega,trivial⟩
  clear HD HC h6
  by_cases hp:c.ph=0
  ·have cp:=aKj (i:=0) z.out rfl hp;have gs:wr.cell? ⟨g,3,none⟩=some (.int .i64 0):=by rw [GoA.stage (i:=1) z.out rfl,hp];rfl
   have HE:=aA (show _/\_/\_ from ⟨z.out,HX.out,hp⟩);clear hp z HX;rcases hl with ⟨h4,h5⟩|⟨h4,h5⟩
   all_goals
    go_wp2_with fail;refine cp.mono ?_;rintro e _ ⟨rfl,rfl⟩;clear cp;go_wp2;exact hR.out _ _ ⟨b,g,c,rfl,HE.out⟩
  have cp:=iU (i:=0) wr z.out rfl;have cf:=pV (i:=0) wr z.out rfl HX.out.ok.k;have y1:¬ (c.ph:Int)=0:=by omega
  have HQ:Hid (∀ wx,Fam w wx (P2 b g c.finish.2.2.2 c [])->wx.cell? ⟨g,3,none⟩=some (.int .i64 (c.ph:Int))/\Calls Tryz.prog 97 #[.pointer (some ⟨g,0,none⟩)] wx (fun e w'=>e=.returned (.tuple #[.int .i64 c.finish.1,.int .i64 c.finish.2.1,.int .i64 c.finish.2.2.1])/\Fam w w' (P2 b g c.finish.2.2.2 c.finish.2.2.2 []))):=fun wx hx=>⟨GoA.stage (i:=1) hx rfl,xJ (i:=1) wx hx rfl HX.out.ok.k⟩;have HE:=aA HX.out.finish;have cf:Calls Tryz.prog 44 #[.pointer (some ⟨b,0,none⟩)] wr (fun e w'=>e=.returned (.tuple #[.int .i64 c.finish.1,.int .i64 c.finish.2.1,.int .i64 c.finish.2.2.1])/\Fam w w' (P2 b g c.finish.2.2.2 c [])):=cf;clear hp z HX;generalize c.finish=ff at*;obtain ⟨f1,f2,f3,f4⟩:=ff;generalize (c.ph:Int)=ph at*;rcases hl with ⟨h4,h5⟩|⟨h4,h5⟩
  all_goals
   go_wp2_with fail;refine cp.mono ?_;rintro e _ ⟨rfl,rfl⟩;clear cp;go_wp2_with fail;refine cf.mono ?_;rintro e w3 ⟨rfl,h2⟩;obtain ⟨gs,cq⟩:=HQ.out _ h2;clear cf HQ h2;go_wp2_with fail;refine cq.mono ?_;rintro e w4 ⟨rfl,x3⟩;have x6:=aA x3;clear cq x3 gs;go_wp2;exact hR.out _ _ ⟨b,g,f4,rfl,x6.out,HE.out⟩
end Go.Proofs.YthflghdaejbdkaaGreat
