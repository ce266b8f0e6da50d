/- Lemmas of this claim. -/
import Derived.Test.YthflghdaejbdkaaGreatXcCyOk
import Derived.Test.YthflghdaejbdkaaGreatXcTbGood
import Derived.Test.YthflghdaejbdkaaGreatXcOFam
namespace Go.Proofs.YthflghdaejbdkaaGreat
open _root_.Go.Proofs.Tryz (prog)
set_option linter.unusedVariables false
set_option maxRecDepth 100000
section
variable {c:Co}
def Co.mu (c:Co):Nat:=if c.ph=0 then 0 else if c.ph=1 then 30000+c.m.left else if c.ph=2 then 20000+(if c.t.ph=0 then c.m.left else 300+c.t.mu c.m) else if c.ph=3 then 10000+c.sw.length else 1+(8*c.pages - c.mv)
theorem aNx {t:Tb} {m:Mk} (h:t.Good m):t.mu m<=1412:=by
 have:=Mk.left_le (m:=m);have:=h.b.le;unfold Tb.mu;omega
theorem wZ (m:Mk):m.white.length<=192:=by
 have y:m.white.length<=m.M.handles.length:=List.length_filter_le _ _;have z:m.M.handles.length=m.used:=(Mk.aLt m).symm;have d:m.used<=192:=qN _ _;omega
theorem Co.Okc.vK (h:c.Okc):c.sw.length<=192:=aFG h.sn (fun x hx=>h.hf.ok.inR (h.su x hx))
theorem Co.aMj (h:c.Okc):c.mu<=30192:=by
 have y:=Mk.left_le (m:=c.m);have z:=aNx h.tg;have d:=h.vK;have e:=h.pg;unfold Co.mu;split
 ·omega
 split
 ·omega
 split
 ·split<;>omega
 split
 ·omega
 omega
theorem aCZ (z:c.m.Ok) (y:c.m.list≠[]):c.mark.2.m.left+1=c.m.left:=Mk.left_step z y
theorem aGw (c:Co) (s:List Int):(c.dV s).2.mu=10000+s.length:=by
 have h:∀ d:Co,d.ph=3->d.mu=10000+d.sw.length:=fun d hd=>by unfold Co.mu;rw [if_neg (by omega),if_neg (by omega),if_neg (by omega),if_pos hd]
 exact h _ rfl
theorem Co.mu_step (h:c.Okc) (hp:c.ph≠0):c.step.2.2.mu<c.mu:=by
 have h9:=Mk.left_le (m:=c.m);unfold Co.step;rw [if_neg hp]
 by_cases h1:c.ph=1
 ·rw [if_pos h1];have e1:c.mu=30000+c.m.left:=by unfold Co.mu;rw [if_neg hp,if_pos h1]
  by_cases hl:c.m.list=[]
  ·rw [if_pos hl,e1];have hk:=h.iL h1 hl;have h3:=aNx hk.tg;have h4:c.iL.2.m.left=c.m.left:=rfl;show c.iL.2.mu<_;have e2:c.iL.2.mu=20000+(if c.iL.2.t.ph=0 then c.iL.2.m.left else 300+c.iL.2.t.mu c.iL.2.m):=by
    unfold Co.mu;rw [if_neg (show ¬ c.iL.2.ph=0 by show ¬ (2:Nat)=0;decide),if_neg (show ¬ c.iL.2.ph=1 by show ¬ (2:Nat)=1;decide),if_pos (show c.iL.2.ph=2 from rfl)]
   rw [e2];split<;>omega
  rw [if_neg hl,e1];have y:=aCZ (h.mo (.inl h1)) hl;show c.mark.2.mu<_;have e2:c.mark.2.mu=30000+c.mark.2.m.left:=by
   unfold Co.mu;rw [if_neg (show ¬ c.mark.2.ph=0 from hp),if_pos (show c.mark.2.ph=1 from h1)]
  omega
 rw [if_neg h1]
 by_cases y:c.ph=2
 ·rw [if_pos y];have hm:=h.mo (.inr y);have h0:∀ d:Co,d.ph=2->d.mu=20000+(if d.t.ph=0 then d.m.left else 300+d.t.mu d.m):=fun d hd=>by
   unfold Co.mu;rw [if_neg (by omega),if_neg (by omega),if_pos hd]
  obtain ⟨k1,k2,k3⟩:=h.stepT y;obtain ⟨g1,g2,g3,g4⟩:=h.tg.step hm;show c.refs.2.mu<_;rw [Co.eY,h0 c y];split
  ·rename_i e0;have h8:c.stepT.t.ph≠0:=k3 e0;have z:c.t.ph≠0:=fun e=>by
    have hs:c.t.step c.m=(0,0,13,c.t,c.m):=by unfold Tb.step;rw [if_pos e]
    rw [hs] at e0;cases e0
   show c.stepT.mu<_;rw [h0 c.stepT y,if_neg h8,if_neg z];rcases g4 z with g5|g5
   ·have:c.stepT.t.mu c.stepT.m<c.t.mu c.m:=g5.2.2;omega
   rw [e0] at g5;cases g5.1
  rename_i e0;have hz:c.stepT.t.ph=0:=k2 e0;have h7:c.stepT.m=c.m:=by
   by_cases z:c.t.ph=0
   ·have hs:c.t.step c.m=(0,0,13,c.t,c.m):=by unfold Tb.step;rw [if_pos z]
    show (c.t.step c.m).2.2.2.2=_;rw [hs]
   exact (((h.pa y z).step h.tg hm z).2 e0).2.2
  unfold Co.tail;split
  ·have:=wZ c.stepT.m;unfold Co.gZ;rw [aGw];omega
  rename_i hl;have h4:=aCZ (k1.mo (.inr y)) hl;show c.stepT.mark.2.mu<_;rw [h0 c.stepT.mark.2 y,if_pos (show c.stepT.mark.2.t.ph=0 from hz)];rw [h7] at h4;split
  ·omega
  omega
 rw [if_neg y]
 by_cases h3:c.ph=3
 ·rw [if_pos h3];have e1:c.mu=10000+c.sw.length:=by unfold Co.mu;rw [if_neg hp,if_neg h1,if_neg y,if_pos h3]
  show c.free.2.mu<_;rw [e1];unfold Co.free
  cases e:c.sw with
  | nil=>
   show (1+(8*c.pages - 0))<_;have:=h.pg;simp only [List.length_nil];omega
  | cons x r=>
   simp only;have e2:({ c with sw:=r,m:=c.m.put (c.m.M.release x).2 }:Co).mu=10000+r.length:=by
    unfold Co.mu;rw [if_neg (by exact hp),if_neg (by exact h1),if_neg (by exact y),if_pos (by exact h3)]
   rw [e2,List.length_cons];omega
 rw [if_neg h3];have e1:c.mu=1+(8*c.pages - c.mv):=by unfold Co.mu;rw [if_neg hp,if_neg h1,if_neg y,if_neg h3]
 show c.move.2.mu<_;rw [e1];unfold Co.move;split
 ·show 0<_;omega
 rename_i hc;have h5:=h.mv;have h6:c.mv≠8*c.pages:=fun e=>hc (.inl e);have e2:({ c with m:=c.m.put c.m.M.move.2.2,mv:=c.mv+1 }:Co).mu=1+(8*c.pages - (c.mv+1)):=by
  unfold Co.mu;rw [if_neg (by exact hp),if_neg (by exact h1),if_neg (by exact y),if_neg (by exact h3)]
 show ({ c with m:=c.m.put c.m.M.move.2.2,mv:=c.mv+1 }:Co).mu<_;rw [e2];omega
theorem Co.Okc.steps (h:c.Okc):∀ k,(Co.steps k c).Okc
 | 0=>h
 | k+1=>(Co.Okc.steps h k).step
theorem Co.oD (h:c.Okc) (k:Nat) (y:∀ j,j<k->(Co.steps j c).ph≠0):(Co.steps k c).mu+k<=c.mu:=by
 induction k with
 | zero=>exact Nat.le_refl _
 | succ k z=>
  have d:=z (fun j hj=>y j (by omega));have e:=Co.mu_step (h.steps k) (y k (by omega));show (Co.steps k c).step.2.2.mu+(k+1)<=_;omega
theorem Co.aDF (h:c.Okc):(Co.steps c.aLk c).ph=0/\(∀ j,j<c.aLk->(Co.steps j c).ph≠0)/\c.aLk<=31000:=by
 have y:∃ i,(Co.steps i c).ph=0/\∀ j,j<i->(Co.steps j c).ph≠0:=by
  have z:=dQ (fun i=>decide ((Co.steps i c).ph=0)) 31000;generalize fst (fun i=>decide ((Co.steps i c).ph=0)) 31000=i at z;have hb:∀ j,j<i->(Co.steps j c).ph≠0:=fun j hj=>of_decide_eq_false (z.1 j hj);have h1:=Co.oD h i hb;have h2:=Co.aMj h;exact ⟨i,of_decide_eq_true (z.2 (by omega)),hb⟩
 have he:c.aLk=Classical.choose y:=by unfold Co.aLk;rw [dif_pos y]
 obtain ⟨e,d⟩:=Classical.choose_spec y;rw [<-he] at e d;have h1:=Co.oD h _ d;have h2:=Co.aMj h;exact ⟨e,d,by omega⟩
theorem Co.aEV (h:c.Okc) {i:Nat} (hi:∀ j,j<i->(Co.steps j c).ph≠0) (e:(Co.steps i c).ph=0):i=c.aLk:=by
 obtain ⟨z,d,_⟩:=Co.aDF h;rcases Nat.lt_trichotomy i c.aLk with y|y|y
 ·exact absurd e (d i y)
 ·exact y
 exact absurd z (hi _ y)
theorem Co.aBT (h:c.Okc) (k:Nat):0<=Co.costs k c/\Co.costs k c<=60*(k:Int):=by
 induction k with
 | zero=>exact ⟨Int.le_refl 0,by show (0:Int)<=60*0;decide⟩
 | succ k z=>
  show 0<=Co.costs k c+(Co.steps k c).step.1/\Co.costs k c+(Co.steps k c).step.1<=60*((k+1:Nat):Int)
  by_cases y:(Co.steps k c).ph=0
  ·rw [Co.mX y];show 0<=Co.costs k c+0/\Co.costs k c+0<=_;omega
  have:=(h.steps k).cost y;omega
theorem Co.Ok.finish (h:c.Ok):c.finish.2.2.2.Ok/\c.finish.2.2.2.ph=0:=by
 unfold Co.finish;split
 ·rename_i e;exact ⟨h,e⟩
 exact ⟨h.steps _,(Co.aDF h.k).1⟩
theorem Co.Okc.pay (h:c.Okc) (hs:¬ c.stops):c.pay.Okc:=by
 have z:c.ph≠0:=fun e=>hs (.inl e);have hc:=h.cost z;have d:c.step.1<=c.cr:=by
  rcases Int.lt_or_le c.cr c.step.1 with y|y
  ·exact absurd (.inr y) hs
  exact y
 exact (h.zU z (n:=c.cr - c.step.1) (by omega)).step
theorem Co.aNB (c:Co):c.pay.cr=c.cr - c.step.1\/(c.pay.ph=0/\c.pay.cr=0):=Co.aEj ({ c with cr:=c.cr - c.step.1 }:Co)
def Co.nu (c:Co):Nat:=if c.ph=0 then 0 else c.cr.toNat+1
theorem Co.aPX (h:c.Okc) (hs:¬ c.stops):c.pay.nu<c.nu:=by
 have z:c.ph≠0:=fun e=>hs (.inl e);have hc:=h.cost z;have h0:c.step.1<=c.cr:=by
  rcases Int.lt_or_le c.cr c.step.1 with y|y
  ·exact absurd (.inr y) hs
  exact y
 unfold Co.nu;rw [if_neg z];split
 ·omega
 rename_i d;rcases c.aNB with y|y
 ·rw [y];omega
 exact absurd y.1 d
theorem Co.tJ (h:c.Okc) (k:Nat) (d:∀ j,j<k->¬ (Co.pays j c).stops):(Co.pays k c).Okc/\(Co.pays k c).nu+k<=c.nu/\(Co.pays k c).cr<=max c.cr 0:=by
 induction k with
 | zero=>exact ⟨h,Nat.le_refl _,by show c.cr<=_;omega⟩
 | succ k ih=>
  obtain ⟨y,h2,h3⟩:=ih (fun j hj=>d j (by omega));have z:=d k (by omega);have h4:=Co.aPX y z;refine ⟨y.pay z,by show (Co.pays k c).pay.nu+(k+1)<=_;omega,?_⟩;show (Co.pays k c).pay.cr<=_;have hp:(Co.pays k c).ph≠0:=fun e=>z (.inl e);have hc:=y.cost hp;rcases (Co.pays k c).aNB with h5|h5<;>omega
theorem Co.fO (h:c.Okc):(Co.pays c.gives c).stops/\(∀ j,j<c.gives->¬ (Co.pays j c).stops)/\c.gives<=c.nu:=by
 classical
 have y:∃ i,(Co.pays i c).stops/\∀ j,j<i->¬ (Co.pays j c).stops:=by
  have z:=dQ (fun i=>decide ((Co.pays i c).stops)) (c.nu+1);generalize fst (fun i=>decide ((Co.pays i c).stops)) (c.nu+1)=i at z;have hb:∀ j,j<i->¬ (Co.pays j c).stops:=fun j hj=>of_decide_eq_false (z.1 j hj);have h1:=(Co.tJ h i hb).2.1;exact ⟨i,of_decide_eq_true (z.2 (by omega)),hb⟩
 have he:c.gives=Classical.choose y:=by unfold Co.gives;rw [dif_pos y]
 obtain ⟨e,d⟩:=Classical.choose_spec y;rw [<-he] at e d;have h1:=(Co.tJ h _ d).2.1;exact ⟨e,d,by omega⟩
theorem Co.rV (h:c.Okc) {i:Nat} (hi:∀ j,j<i->¬ (Co.pays j c).stops) (e:(Co.pays i c).stops):i=c.gives:=by
 obtain ⟨z,d,_⟩:=Co.fO h;rcases Nat.lt_trichotomy i c.gives with y|y|y
 ·exact absurd e (d i y)
 ·exact y
 exact absurd z (hi _ y)
theorem Co.Okc.more (h:c.Okc) (y:c.ph≠0) {n:Int} (z:0<=n):(c.more n).Okc:=h.zU y (by have:=h.cr1;omega)
theorem Co.Ok.give (h:c.Ok) {n:Int} (hn:0<=n):(c.give n).2.Ok:=by
 unfold Co.give;split
 ·exact h
 rename_i hp;have d:=h.k.more hp hn;obtain ⟨y,h3,_⟩:=Co.fO d;have z:=(Co.tJ d _ h3).1;refine ⟨z,?_⟩;show (Co.pays (c.more n).gives (c.more n)).cr<=60;rcases y with y|y
 ·have:=z.c0 y;omega
 by_cases e:(Co.pays (c.more n).gives (c.more n)).ph=0
 ·have:=z.c0 e;omega
 have:=(z.cost e).2.1;omega
theorem Co.Ok.fZ (h:c.Ok) (n:Int):(c.fZ n).2.2.Ok:=by
 unfold Co.fZ;split
 ·exact h
 exact h.give (by omega)
theorem bQ:c.bar=true↔c.ph=1\/c.ph=2:=by unfold Co.bar;exact decide_eq_true_iff
theorem aFK {m:Mk} {r:Int×Int×Hp}:(m.made r).2.2.M=r.2.2:=by unfold Mk.made;simp only;split<;>rfl
theorem Co.Ok.newObj (h:c.Ok) (k:Int) (l:List Bool):(c.newObj k l).2.2.Ok:=by
 unfold Co.newObj;split
 ·rename_i hb;have y:=bQ.1 hb;exact ⟨h.k.marker y ((h.k.mo y).aH k l) (fun x hx=>by show ((c.m.made (c.m.M.aH k l)).2.2.M.ob x).isSome=true;rw [aFK,(c.m.M.dW k l).old x hx];exact hx) aJM,h.cr2⟩
 rename_i hb;exact ⟨h.k.heap (fun e=>hb (bQ.2 e)) (h.k.hf.aH k l) (fun x hx=>by rw [(c.m.M.dW k l).old x hx];exact hx),h.cr2⟩
theorem Co.Ok.dJ (h:c.Ok) (k a n:Int):(c.dJ k a n).2.2.Ok:=by
 unfold Co.dJ;split
 ·rename_i hb;have y:=bQ.1 hb;exact ⟨h.k.marker y ((h.k.mo y).aG k a n) (fun x hx=>by show ((c.m.made (c.m.M.aG k a n)).2.2.M.ob x).isSome=true;rw [aFK,(c.m.M.fA k a n).old x hx];exact hx) aJM,h.cr2⟩
 rename_i hb;exact ⟨h.k.heap (fun e=>hb (bQ.2 e)) (h.k.hf.aG k a n) (fun x hx=>by rw [(c.m.M.fA k a n).old x hx];exact hx),h.cr2⟩
theorem Co.Ok.aH (h:c.Ok) (k:Int) (l:List Bool):(c.aH k l).2.2.Ok:=by
 unfold Co.aH;split
 ·exact h
 exact (h.give h.k.rt.1).newObj k l
theorem uX {n:Int} (y:0<=n) (h:n<=48):1<=aBa n/\aBa n<=7:=by
 unfold aBa;split
 ·rw [Int.tdiv_eq_ediv_of_nonneg (by omega)];omega
 omega
theorem Co.Ok.aG (h:c.Ok) (k a n:Int):(c.aG k a n).2.2.Ok:=by
 unfold Co.aG;split
 ·exact h
 rename_i z;have y:=uX (n:=n) (by omega) (by omega);exact (h.give (Int.mul_nonneg h.k.rt.1 (by omega))).dJ k a n
theorem aIK {m:Mk} (a s v:Int):(m.store a s v).2.M=(m.M.set a s v).2:=by
 unfold Mk.store;simp only;split
 ·rw [Mk.lS,Mk.lS];rfl
 rfl
theorem Co.Ok.store (h:c.Ok) (a s v:Int):(c.store a s v).2.Ok:=by
 unfold Co.store;split
 ·exact h
 split
 ·rename_i hb;have y:=bQ.1 hb;exact ⟨h.k.marker y ((h.k.mo y).store a s v) (fun x hx=>by rw [aIK,Hp.lT];exact hx) (aLF a s v),h.cr2⟩
 rename_i hb;exact ⟨h.k.heap (fun e=>hb (bQ.2 e)) (h.k.hf.set a s v) (fun x hx=>by rw [Hp.lT];exact hx),h.cr2⟩
theorem aNM {t:Tb} {m:Mk} (k x g:Int):(t.add m k x g).2.2.ph=t.ph:=by
 unfold Tb.add;split
 ·rfl
 split
 ·rfl
 split
 ·rfl
 split<;>rfl
theorem aNt {t:Tb} {m:Mk} (k x g:Int) {i:Nat} (y:i<(t.add m k x g).2.2.ents.length):(i<t.ents.length/\eAt (t.add m k x g).2.2.ents i=eAt t.ents i)\/((eAt (t.add m k x g).2.2.ents i).tgt=x/\(m.M.ob x).isSome=true):=by
 unfold Tb.add at y ⊢;split at y
 ·rename_i h;rw [if_pos h];exact .inl ⟨y,rfl⟩
 rename_i h1;rw [if_neg h1];split at y
 ·rename_i h;rw [if_pos h];exact .inl ⟨y,rfl⟩
 rename_i h2;rw [if_neg h2];split at y
 ·rename_i h;rw [if_pos h];exact .inl ⟨y,rfl⟩
 rename_i d;rw [if_neg d];split at y
 ·rename_i h;rw [if_pos h];exact .inl ⟨y,rfl⟩
 rename_i h4;rw [if_neg h4];have z:i<t.ents.length+1:=by
  have:i<(t.ents ++ [(⟨k,x,g⟩:En)]).length:=y;simpa using this
 show (_/\eAt (t.ents ++ [⟨k,x,g⟩]) i=_)\/((eAt (t.ents ++ [⟨k,x,g⟩]) i).tgt=x/\_);rw [aBQ _ _ z];split
 ·refine .inr ⟨rfl,?_⟩
  cases e:(m.M.ob x).isSome
  ·exact absurd e d
  rfl
 exact .inl ⟨by omega,rfl⟩
theorem Co.Ok.refer (h:c.Ok) (k x g:Int):(c.refer k x g).2.2.Ok:=by
 unfold Co.refer;split
 ·exact h
 rename_i hp;obtain ⟨y,hy⟩:∃ y,y=if c.hid x then 0 else x:=⟨_,rfl⟩;rw [<-hy];have z:=h.k;refine ⟨⟨z.hf,z.mo,z.nl,z.tg.add k y g,fun e=>by show (c.t.add c.m k y g).2.2.ph=0;rw [aNM];exact z.t0 e,z.p4,z.sw,z.su,z.sn,fun i hi hm=>?_,fun e=>absurd e hp,fun e=>absurd e hp,z.cr1,z.c0,z.rt,z.pg,z.mv⟩,h.cr2⟩;rcases aNt k y g hi with ⟨h1,h2⟩|⟨h1,h2⟩
 ·have d:(eAt (c.t.add c.m k y g).2.2.ents i).tgt∈c.sw:=hm;rw [h2] at d;exact z.st i h1 d
 have d:(eAt (c.t.add c.m k y g).2.2.ents i).tgt∈c.sw:=hm;rw [h1] at d;have h0:=(z.hf.ok.inR h2).1;unfold Co.hid at hy;rw [if_neg hp] at hy
 by_cases e:x∈c.sw
 ·rw [decide_eq_true e] at hy;simp at hy;omega
 rw [decide_eq_false e] at hy;simp at hy;rw [hy] at d;exact e d
theorem Co.Ok.take (h:c.Ok):c.take.2.2.Ok:=by
 have y:=h.k;have he:c.t.take.2.2.ents=c.t.ents/\c.t.take.2.2.ph=c.t.ph/\c.t.take.2.2.nx=c.t.nx/\c.t.take.2.2.fd=c.t.fd:=by
  unfold Tb.take;split<;>exact ⟨rfl,rfl,rfl,rfl⟩
 obtain ⟨e1,e2,e3,e4⟩:=he;refine ⟨⟨y.hf,y.mo,y.nl,y.tg.take,fun e=>by show c.t.take.2.2.ph=0;rw [e2];exact y.t0 e,y.p4,y.sw,y.su,y.sn,fun i hi=>?_,fun e h2=>?_,fun e h2=>?_,y.cr1,y.c0,y.rt,y.pg,y.mv⟩,h.cr2⟩
 ·have z:i<c.t.take.2.2.ents.length:=hi;show (eAt c.t.take.2.2.ents i).tgt∉c.sw;rw [e1] at z ⊢;exact y.st i z
 ·have d:c.t.take.2.2.ph≠0:=h2;rw [e2] at d;refine (y.pa e d).move (t':=c.t.take.2.2) e1 (fun i hi=>by rw [e2,e3]) (fun e5 i hi hkd hf=>?_);rw [e4] at hf;rw [e2] at e5;exact (y.pa e d).f e5 i hi hkd hf
 have d:c.t.take.2.2.ph=0:=h2;rw [e2] at d;intro i hi;have z:i<c.t.take.2.2.ents.length:=hi;show (eAt c.t.take.2.2.ents i).fine c.m;rw [e1] at z ⊢;exact y.al e d i z
theorem Co.Ok.target (h:c.Ok) (i:Int):(c.target i).2.2.Ok:=by
 unfold Co.target;split
 ·exact h
 split
 ·exact h
 show (if c.ph=1 then _ else _:Co).Ok;split
 ·rename_i y;exact ⟨h.k.marker (.inl y) ((h.k.mo (.inl y)).bI _) (fun x hx=>by rw [Mk.lS];exact hx) wH,h.cr2⟩
 exact h
theorem Co.Ok.begin (h:c.Ok) (l:List Int):(c.begin l).2.Ok:=by
 unfold Co.begin;split
 ·exact h
 split
 ·exact h
 split
 ·exact h
 rename_i h1 d h3;have y:=h.k;have h0:c.ph=0:=Classical.not_not.1 d;have ht:=y.t0 (by omega);have z:((Mk.start c.m.M).bC l).M=c.m.M:=Mk.kN _ _;refine ⟨⟨by show ((Mk.start c.m.M).bC l).M.OkF;rw [z];exact y.hf,fun _=>Mk.Ok.bC _ _ (Mk.Ok.start y.hf),fun e=>absurd rfl e,y.tg.marker (fun x hx=>by show (((Mk.start c.m.M).bC l).M.ob x).isSome=true;rw [z];exact hx),fun _=>ht,by show 1<=4;omega,fun _=>y.sw (by omega),fun x hx=>by show (((Mk.start c.m.M).bC l).M.ob x).isSome=true;rw [z];exact y.su x hx,y.sn,y.st,fun e=>by (cases e),fun e=>by (cases e),by show -193<=-1 - (l.length:Int);omega,fun e=>by (cases e),y.rt,y.pg,Nat.zero_le _⟩,by show -1 - (l.length:Int)<=60;omega⟩
theorem Co.Ok.new {n:Nat} {r:Int} (z:1<=n) (y:n<=24) (d:0<=r/\r<=100):(Co.new n r).Ok:=
 ⟨⟨Hp.OkF.new z y,fun e=>by rcases e with e|e<;>(cases e),fun _ _=>rfl,Tb.Good.new,fun _=>rfl,Nat.zero_le _,fun _=>rfl,fun x hx=>by (cases hx),List.nodup_nil,fun i hi=>absurd hi (Nat.not_lt_zero _),fun e=>by (cases e),fun e=>by (cases e),by show (-193:Int)<=0;decide,fun _=>rfl,d,⟨z,y⟩,Nat.zero_le _⟩,by show (0:Int)<=60;decide⟩
end
def aRL (o:Option Th):List Int:=match o with|none=>[]|some o=>o.blocks
def Hp.blks (M:Hp):Nat->List Int
 | 0=>[]
 | k+1=>M.blks k ++ aRL (M.ob ((k:Int)+1))
section
variable {M:Hp} {P:Pl}
theorem aBX {k:Nat} {a:Int}:a∈M.blks k↔∃ j:Nat,j<k/\∃ o,M.ob ((j:Int)+1)=some o/\a∈o.blocks:=by
 induction k with
 | zero=>simp [Hp.blks]
 | succ k d=>
  unfold Hp.blks;rw [List.mem_append,d];constructor
  ·rintro (⟨j,z,h⟩|h)
   ·exact ⟨j,by omega,h⟩
   cases e:M.ob ((k:Int)+1) with
   | none=>rw [e] at h;cases h
   | some o=>rw [e] at h;exact ⟨k,by omega,o,e,h⟩
  rintro ⟨j,z,o,y,h⟩
  by_cases e:j=k
  ·subst e;right;rw [y];exact h
  left;exact ⟨j,by omega,o,y,h⟩
theorem aNq (k:Nat):(M.blks k).length=jE (fun j=>mP (M.ob ((j:Int)+1))) k:=by
 induction k with
 | zero=>rfl
 | succ k y=>
  unfold Hp.blks jE;rw [List.length_append,y];congr 1
  cases M.ob ((k:Int)+1)<;>rfl
theorem aBB {l:List Int} {a:Int}:a∈l↔∃ m,m<l.length/\gI l m=a:=by
 rw [List.mem_iff_getElem];constructor
 ·rintro ⟨m,y,e⟩;exact ⟨m,y,by rw [aFW y];exact e⟩
 rintro ⟨m,y,e⟩;exact ⟨m,y,by rw [aFW y] at e;exact e⟩
theorem aIh (hk:M.Ok) (k:Nat):(M.blks k).Nodup:=by
 induction k with
 | zero=>exact List.nodup_nil
 | succ k ih=>
  unfold Hp.blks;rw [List.nodup_append];refine ⟨ih,?_,fun a ha b hb e=>?_⟩
  ·cases e:M.ob ((k:Int)+1) with
   | none=>exact List.nodup_nil
   | some o=>
    show o.blocks.Nodup;rw [List.nodup_iff_pairwise_ne,List.pairwise_iff_getElem];intro i j d z h0 y;have:=hk.dj _ o e _ o e i d j z (by rw [aFW d,aFW z];exact y);omega
  subst e;obtain ⟨j,z,o,ho,h1⟩:=aBX.1 ha
  cases y:M.ob ((k:Int)+1) with
  | none=>rw [y] at hb;cases hb
  | some o2=>
   rw [y] at hb;obtain ⟨m1,h2,h3⟩:=aBB.1 h1;obtain ⟨m2,h4,h5⟩:=aBB.1 (show a∈o2.blocks from hb);have:=(hk.dj _ o ho _ o2 y m1 h2 m2 h4 (h3.trans h5.symm)).1;omega
theorem Hp.OkF.aHo (y:M.OkF) {x:Nat} (hx:x<16*M.P.n) (hl:M.P.nR x=true):∃ h o,M.ob h=some o/\(x:Int)∈o.blocks:=by
 have h1:(M.P.lives (16*M.P.n)).length=(M.blks 192).length:=by
  rw [Pl.aJP,Pl.yS y.ok.p,aNq];exact y.full
 have z:∀ a∈M.blks 192,a∈(M.P.lives (16*M.P.n)).map (fun (n:Nat)=>(n:Int)):=fun a ha=>by
  obtain ⟨j,hj,o,e,h2⟩:=aBX.1 ha;obtain ⟨m,d,rfl⟩:=aBB.1 h2;have hb:=y.ok.bk _ o e m d;have hc:=y.ok.isC e (m:=m) d;have h4:=hb.range hc;have h5:=hb.begin hc;refine List.mem_map.2 ⟨(gI o.blocks m).toNat,Pl.aDb.2 ⟨by have:=hc.sz;omega,?_⟩,by omega⟩;have h6:((gI o.blocks m).toNat:Int)=gI o.blocks m:=by omega
  unfold Pl.nR;rw [h6,h5];simp
 have h2:=(jT (aIh y.ok 192) z).2 (by rw [List.length_map,h1];exact Nat.le_refl _);have d:=h2 (x:Int) (List.mem_map.2 ⟨x,Pl.aDb.2 ⟨hx,hl⟩,rfl⟩);obtain ⟨j,hj,o,e,h4⟩:=aBX.1 d;exact ⟨_,o,e,h4⟩
theorem Hp.OkF.aHg (hk:M.OkF) (he:M.P.move.2.2.1=0):∃ h o,M.ob h=some o/\o.place M.P.move.1<o.blocks.length:=by
 cases hp:M.P.pair with
 | none=>rw [Pl.fC hp] at he;cases he
 | some x=>
  obtain ⟨i,j⟩:=x;have z:=Pl.jG hp;have h3:(M.P.pg i).cls≠-1:=by rcases z.c with e|e|e<;>omega
  have ht:=(hk.ok.p i z.hi).top h3;have h4:=z.c.blk ht.1;have h0:M.P.move.1=((16*i+(M.P.pg i).top (M.P.pg i).cls*bsz (M.P.pg i).cls:Nat):Int):=by rw [Pl.fB hp]
  have hb:Blk M.P (M.P.pg i).cls M.P.move.1 (fun y=>(M.P.pg i).cell ((M.P.pg i).top (M.P.pg i).cls*bsz (M.P.pg i).cls+y)):=⟨i,(M.P.pg i).top (M.P.pg i).cls,h0,⟨z.hi,rfl,ht.1,ht.2,fun _ _=>rfl⟩⟩;have d:=hb.begin z.c;rw [h0] at d ⊢;have hi:=z.hi;have hs:=z.c.sz;obtain ⟨h,o,ho,hm⟩:=hk.aHo (x:=16*i+(M.P.pg i).top (M.P.pg i).cls*bsz (M.P.pg i).cls) (by omega) (by unfold Pl.nR;rw [d];simp);obtain ⟨m,h1,h2⟩:=aBB.1 hm;exact ⟨h,o,ho,Th.aBw h1 h2⟩
theorem aBW (P:Pl) (a n i:Int):(P.setCell a n).2.class i=P.class i:=by
 unfold Pl.setCell;split
 ·unfold Pl.class;have y:(P.set (a.toNat / 16) { P.pg (a.toNat / 16) with cell:=up (P.pg (a.toNat / 16)).cell (a.toNat % 16) n }).n=P.n:=rfl
  by_cases h:i<0\/(P.n:Int)<=i
  ·rw [if_pos h,y,if_pos h]
  rw [if_neg h,y,if_neg h];show ((up P.pg (a.toNat / 16) _ i.toNat).cls,(0:Int))=_
  by_cases e:i.toNat=a.toNat / 16
  ·rw [e,bM]
  rw [aU _ _ e]
 rfl
theorem oN (hk:P.ok) (he:P.move.2.2.1=0):(P.move.2.2.2.class (P.move.2.1.tdiv 16)).1=(P.class (P.move.1.tdiv 16)).1/\0<=P.move.1/\0<=P.move.2.1/\P.move.1<16*P.n/\P.move.2.1<16*P.n/\P.move.2.2.2.n=P.n:=by
 cases z:P.pair with
 | none=>rw [Pl.fC z] at he;cases he
 | some x=>
  obtain ⟨i,j⟩:=x;have y:=Pl.jG z;have d:(P.pg i).cls≠-1:=by rcases y.c with e|e|e<;>omega
  have ht:=((hk i y.hi).top d).1;have h1:=(y.c.blk ht).1;have hg:=((hk j y.hj).gap (c:=(P.pg i).cls) y.c y.pj).1;have h0:=(y.c.blk hg).1;have hs:=y.c.sz;have hi:=y.hi;have hj:=y.hj;rw [Pl.fB z];rw [y.same];simp only;have d1:(((16*i+(P.pg i).top (P.pg i).cls*bsz (P.pg i).cls:Nat):Int)).tdiv 16=(i:Int):=by
   rw [Int.tdiv_eq_ediv_of_nonneg (by omega)];omega
  have d2:(((16*j+(P.pg j).gap (P.pg i).cls*bsz (P.pg i).cls:Nat):Int)).tdiv 16=(j:Int):=by
   rw [Int.tdiv_eq_ediv_of_nonneg (by omega)];omega
  refine ⟨?_,by omega,by omega,by omega,by omega,rfl⟩;rw [d1,d2];unfold Pl.class;have hn:(P.moved i j).n=P.n:=rfl;rw [hn,if_neg (by omega),if_neg (by omega),Int.toNat_natCast,Int.toNat_natCast];show ((P.moved i j).pg j).cls=(P.pg i).cls;unfold Pl.moved;simp only;show (up (up P.pg j _) i _ j).cls=_;rw [aU _ _ (fun e=>y.ne e.symm),bM];rfl
theorem Hp.OkF.aCV (y:M.OkF) (z:M.P.move.2.2.1=0):∃ h o,M.ob h=some o/\o.place M.P.move.1<o.blocks.length/\M.move=(h,0,Hp.fD M.P.move.2.2.2 M.ob h o (o.place M.P.move.1) M.P.move.2.1)/\M.move.2.2.ob h=some (o.moved (o.place M.P.move.1) M.P.move.2.1)/\M.P.move.2.1≠gI o.blocks (o.place M.P.move.1)/\(M.move.2.2.P.class (M.P.move.2.1.tdiv 16)).1=(M.P.class (M.P.move.1.tdiv 16)).1:=by
 obtain ⟨h,o,d,e⟩:=y.aHg z;have hm:=tV y.ok z d e;refine ⟨h,o,d,e,hm,?_,?_,?_⟩
 ·rw [hm];show dZ M.ob h _ h=_;rw [aY]
 ·have hc:=y.ok.isC d (m:=o.place M.P.move.1) e;have hb:=y.ok.bk h o d _ e;exact hb.yI y.ok.p hc z
 rw [hm];show ((if o.place M.P.move.1=0 then M.P.move.2.2.2 else _:Pl).class _).1=_;split
 ·exact (oN y.ok.p z).1
 rw [aBW];exact (oN y.ok.p z).1
end
end Go.Proofs.YthflghdaejbdkaaGreat
namespace Go.Proofs.YthflghdaejbdkaaGreat
open _root_.Go.Proofs.Tryz (prog)
open Go.RowKit Go.Maps
set_option maxHeartbeats 3200000
set_option maxRecDepth 100000
set_option linter.unusedVariables false
def aAg (w:World) (z:Nat) (y:Int->Int):Prop:=
 ∃ D:DataW Unit,w.ownsMap prog 3 (plainElem (H:=Unit) prog 3) z 192 D/\(∀ k,wfI k->Maps.has D (.int .i64 k)=true->1<=k/\k<=192)/\∀ k,wfI k->D.atKey (.int .i64 k) (.lit (.int .i64 0))=.lit (.int .i64 (y k))
theorem aBg (w:World):(zeroValue 3).run prog w=.ok (.int .i64 0) w:=by kernel_rfl
theorem aBy {w:World} {mb n:Nat} {D:DataW Unit} (hD:w.ownsMap prog 3 (plainElem (H:=Unit) prog 3) mb n D) (hs:∀ k,wfI k->Maps.has D (.int .i64 k)=true->1<=k/\k<=192):w.ownsMap prog 3 (plainElem (H:=Unit) prog 3) mb 192 D:=by
 have c:=hD.canon jI;have h1:=(jT (pY c) (l2:=(List.range 192).map fun (i:Nat)=>Lit.int .i64 ((i:Int)+1)) (fun x hx=>by
  have d:=(lD c x).1 hx;obtain ⟨z,rfl,hz⟩:=pW hD d;have h2:=hs z hz d;exact List.mem_map.2 ⟨z.toNat - 1,by simp;omega,by congr 1;omega⟩)).1
 rw [rH c] at h1;simp only [List.length_map,List.length_range] at h1;obtain ⟨e,y,hb,F,hn,rfl⟩:=hD;have e1:Maps.size (DataW.map ((e.toList.map (WideElems.rg prog 3 (plainElem (H:=Unit) prog 3))).foldr DataW.insert []))=e.size:=by simp [Maps.size,length_sorted]
 exact ⟨e,y,hb,F,by omega,rfl⟩
section
variable {w w':World} {mb:Nat} {col:Int->Int}
theorem aAg.lt (h:aAg w mb col):mb<w.heap.size:=by obtain ⟨D,h,_⟩:=h;exact h.lt
theorem aAg.only {S:Nat->Prop} (h:aAg w mb col) (hg:aI S w w') (hS:¬ S mb):aAg w' mb col:=by
 obtain ⟨D,d,hf⟩:=h;have z:=d.lt;obtain ⟨e,y,hb,r⟩:=d;exact ⟨D,⟨e,y,(hg.block mb z hS).trans hb,r⟩,hf⟩
theorem aAg.look (h:aAg w mb col) {k:Int} (z:wfI k):(Instr.lookup 127 (.map (some mb)) (.int .i64 k) false).run prog w=.ok (.int .i64 (col k)) w:=by
 obtain ⟨D,hD,_,hf⟩:=h;obtain ⟨c,d,e,_⟩:=hD.lookup_int jI Tryz.underlying127 Tryz.underlying3 (aBg w) (aNF z);have y:=hf k z;rw [e] at y;simp at y;rw [d,y]
theorem aAg.made (w:World):aAg (w.alloc (.map #[] 0)) w.heap.size (fun _=>0):=
 ⟨.map [],(World.ownsMap_made _ _ _ _).mono (Nat.zero_le _),fun k _ h=>(by cases h),fun k _=>rfl⟩
theorem aAg.store (h:aAg w mb col) {k:Int} (hk:1<=k/\k<=192) {v:Int} (hv:wfI v):∃ w',(Instr.mapUpdate 127 (.map (some mb)) (.int .i64 k) (.int .i64 v)).run prog w=.ok () w'/\aAg w' mb (jO col k v)/\w.grownBy w' (some mb):=by
 obtain ⟨D,hD,hr,hf⟩:=h;have z:wfI k:=dL (by omega);obtain ⟨w',h1,h2,h3⟩:=hD.update jI Tryz.underlying127 (by decide) (aNF z) (plainElem_int Tryz.underlying3 hv);have hm:=hD.isMap;have y:∀ j,wfI j->Maps.has (D.put (.int .i64 k) (.lit (.int .i64 v))) (.int .i64 j)=true->1<=j/\j<=192:=fun j d h7=>by
  by_cases e:j=k
  ·rw [e];exact hk
  rw [Maps.has_put_other (vP e)] at h7;exact hr j d h7
 refine ⟨w',h1,⟨_,aBy h2 y,y,fun j d=>?_⟩,h3⟩
 by_cases e:j=k
 ·rw [e,bY];exact Maps.atKey_put_same hm (aDc k z) _ _
 rw [bG _ _ e,Maps.atKey_put_other (vP e)];exact hf j d
end
theorem Fam.turn {w0 w w':World} {l:List Asn} {A A':Asn} (h:Fam w0 w l) (i:Nat) (hi:l[i]?=some A) (hc:∀ S,A.holds w S->∃ S',A'.holds w' S'/\(∀ k,S' k->S k\/w.heap.size<=k)/\aI S w w'):Fam w0 w' (l.set i A'):=by
 obtain ⟨h0,S,h1,h2,h3⟩:=h;have y:=(List.getElem?_eq_some_iff.1 hi).1;obtain ⟨S',hA,hS,ho⟩:=hc (S i) (h1 i A hi);refine ⟨⟨ho.os.trans h0.os,ho.tape.trans h0.tape,ho.output.trans h0.output,Nat.le_trans h0.size ho.size,fun k d hn=>by
  rw [ho.block k (Nat.lt_of_lt_of_le d h0.size) (fun x=>by have:=h3 i y k x;omega)];exact h0.block k d hn⟩,fun j=>if j=i then S' else S j,fun j B hj=>?_,fun a b ha hb hab k=>?_,fun j hj k d=>?_⟩
 ·try simp only
  by_cases e:j=i
  ·rw [if_pos e];rw [e,List.getElem?_set_self y] at hj
   cases hj
   exact hA
  rw [if_neg e];rw [List.getElem?_set_ne (fun x=>e x.symm)] at hj;exact B.keep (h1 j B hj) ho (h2 i j y (List.getElem?_eq_some_iff.1 hj).1 (fun x=>e x.symm))
 ·rw [List.length_set] at ha hb
  try simp only
  intro h4 h5
  by_cases e1:a=i
  ·by_cases e2:b=i
   ·exact hab (e1.trans e2.symm)
   rw [if_pos e1] at h4;rw [if_neg e2] at h5;rcases hS k h4 with z|z
   ·exact h2 i b y hb (fun x=>e2 x.symm) k z h5
   have:=(l[b]'hb).lt (h1 b _ (List.getElem?_eq_getElem hb)) h5;omega
  by_cases e2:b=i
  ·rw [if_neg e1] at h4;rw [if_pos e2] at h5;rcases hS k h5 with z|z
   ·exact h2 i a y ha (fun x=>e1 x.symm) k z h4
   have:=(l[a]'ha).lt (h1 a _ (List.getElem?_eq_getElem ha)) h4;omega
  rw [if_neg e1] at h4;rw [if_neg e2] at h5;exact h2 a b ha hb hab k h4 h5
 rw [List.length_set] at hj
 try simp only at d
 by_cases e:j=i
 ·rw [if_pos e] at d;rcases hS k d with z|z
  ·exact h3 i y k z
  have:=h0.size;omega
 rw [if_neg e] at d;exact h3 j hj k d
structure aFh (w:World) (p hb mb:Nat) (v:Value) (col:Int->Int) (list:List Int):Prop where
 row:∃ T,Row w p T [.pointer (some ⟨hb,0,none⟩),.map (some mb),v]
 map:aAg w mb col
 ints:aK w 0 v list
 ne:p≠mb
 ne2:∀ g,v.ownBlock=some g->g≠p/\g≠mb
def MkA (p hb:Nat) (h0:Int->Int) (d:List Int):Asn:=
 ⟨fun w S=>∃ y v,aFh w p hb y v h0 d/\∀ k,S k↔(k=p\/k=y\/v.ownBlock=some k),
  fun ⟨y,v,h,z⟩ ho hd=>⟨y,v,⟨h.row.imp fun T x=>ho.row x (fun x=>hd p x ((z p).2 (.inl rfl))),h.map.only ho (fun x=>hd y x ((z y).2 (.inr (.inl rfl)))),h.ints.dA ho (fun k hk x=>hd k x ((z k).2 (.inr (.inr hk)))),h.ne,h.ne2⟩,z⟩,
  fun ⟨y,v,h,z⟩ hk=>by
   rcases (z _).1 hk with e|e|e
   ·obtain ⟨T,hr⟩:=h.row;rw [e];exact hr.lt
   ·rw [e];exact h.map.lt
   exact (h.ints.own _ e).2⟩
structure aDT (w:World) (r q:Nat) (tg tc:Nat) (v:Value) (T:List Int) (col:Int->Int) (list:List Int):Prop where
 row:∃ U,Row w r U [.pointer (some ⟨q,0,none⟩),.slice (some ⟨tg,0,none⟩) 193 tc,v]
 tint:aK w 0 (.slice (some ⟨tg,0,none⟩) 193 tc) T
 tl:T.length=193
 tv:∀ k:Nat,k<193->gI T k=col k
 ints:aK w 0 v list
 ne:r≠tg
 ne2:∀ g,v.ownBlock=some g->g≠r/\g≠tg
def GkA (r q:Nat) (h1:Int->Int) (h0:List Int):Asn:=
 ⟨fun w S=>∃ d tc v T,aDT w r q d tc v T h1 h0/\∀ k,S k↔(k=r\/k=d\/v.ownBlock=some k),
  fun ⟨d,tc,v,T,h,y⟩ ho hd=>⟨d,tc,v,T,⟨h.row.imp fun U x=>ho.row x (fun x=>hd r x ((y r).2 (.inl rfl))),h.tint.dA ho (fun k z x=>hd k x ((y k).2 (.inr (.inl (by cases z;rfl))))),h.tl,h.tv,h.ints.dA ho (fun k z x=>hd k x ((y k).2 (.inr (.inr z)))),h.ne,h.ne2⟩,y⟩,
  fun ⟨d,tc,v,T,h,y⟩ z=>by
   rcases (y _).1 z with e|e|e
   ·obtain ⟨U,hr⟩:=h.row;rw [e];exact hr.lt
   ·exact (h.tint.own _ (by rw [e];rfl)).2
   exact (h.ints.own _ e).2⟩
def ML (l:List Asn) (i j hb p:Nat) (m:Mk):List Asn:=(l.set i (PH hb m.M)).set j (MkA p hb m.col m.list)
def RL (l:List Asn) (i j q r:Nat) (m:Mk):List Asn:=(l.set i (GH q m.M)).set j (GkA r q m.col m.list)
structure gX (l:List Asn) (i j:Nat):Prop where
 hi:i<l.length
 hj:j<l.length
 ne:i≠j
section
variable {l:List Asn} {i j hb p q r:Nat} {m:Mk}
theorem ML.heap (h:gX l i j):(ML l i j hb p m)[i]?=some (PH hb m.M):=by
 unfold ML;rw [List.getElem?_set_ne (Ne.symm h.ne),List.getElem?_set_self h.hi]
theorem ML.self (h:gX l i j):(ML l i j hb p m)[j]?=some (MkA p hb m.col m.list):=by
 unfold ML;rw [List.getElem?_set_self (by rw [List.length_set];exact h.hj)]
theorem ML.put (h:gX l i j) (M:Hp):(ML l i j hb p m).set i (PH hb M)=ML l i j hb p (m.put M):=by
 unfold ML;rw [List.set_comm _ _ (Ne.symm h.ne),List.set_set];rfl
theorem ML.turn (c:Int->Int) (t:List Int):(ML l i j hb p m).set j (MkA p hb c t)=ML l i j hb p ⟨m.M,c,t⟩:=by
 unfold ML;rw [List.set_set]
theorem RL.heap (h:gX l i j):(RL l i j q r m)[i]?=some (GH q m.M):=by
 unfold RL;rw [List.getElem?_set_ne (Ne.symm h.ne),List.getElem?_set_self h.hi]
theorem RL.self (h:gX l i j):(RL l i j q r m)[j]?=some (GkA r q m.col m.list):=by
 unfold RL;rw [List.getElem?_set_self (by rw [List.length_set];exact h.hj)]
theorem RL.put (h:gX l i j) (M:Hp):(RL l i j q r m).set i (GH q M)=RL l i j q r (m.put M):=by
 unfold RL;rw [List.set_comm _ _ (Ne.symm h.ne),List.set_set];rfl
theorem RL.turn (c:Int->Int) (t:List Int):(RL l i j q r m).set j (GkA r q c t)=RL l i j q r ⟨m.M,c,t⟩:=by
 unfold RL;rw [List.set_set]
variable {w0 w w':World}
theorem ML.mk (h:gX l i j) (d:Fam w0 w (ML l i j hb p m)):∃ y v,aFh w p hb y v m.col m.list:=by
 obtain ⟨S,⟨y,v,z,_⟩,_⟩:=d.get j (ML.self h);exact ⟨y,v,z⟩
theorem aFh.same {mb y:Nat} {v v2:Value} {c c2:Int->Int} {t t2:List Int} (h:aFh w p hb mb v c t) (h2:aFh w p hb y v2 c2 t2):y=mb/\v2=v:=by
 obtain ⟨U,e⟩:=h.row;obtain ⟨U2,h4⟩:=h2.row;have z:=(e.cell 1 rfl).symm.trans (h4.cell 1 rfl);have d:=(e.cell 2 rfl).symm.trans (h4.cell 2 rfl);simp at z d;exact ⟨z.symm,d.symm⟩
theorem ML.mkT (h:gX l i j) (hf:Fam w0 w (ML l i j hb p m)):∃ mb v,aFh w p hb mb v m.col m.list/\∀ (w':World) (y:Nat) (v':Value) (c:Int->Int) (t:List Int),aFh w' p hb y v' c t->(y=mb\/w.heap.size<=y)->
  (∀ g,v'.ownBlock=some g->v.ownBlock=some g\/w.heap.size<=g)->aI (fun k=>k=p\/k=mb\/v.ownBlock=some k) w w'->Fam w0 w' (ML l i j hb p ⟨m.M,c,t⟩):=by
 obtain ⟨mb,v,hm⟩:=ML.mk h hf;refine ⟨mb,v,hm,fun w' y v' c t h1 e h3 h4=>?_⟩;rw [<-ML.turn c t];refine hf.turn j (ML.self h) fun S d=>?_;obtain ⟨h6,v2,h0,d⟩:=d;obtain ⟨rfl,rfl⟩:=hm.same h0;refine ⟨fun k=>k=p\/k=y\/v'.ownBlock=some k,⟨y,v',h1,fun k=>Iff.rfl⟩,fun k z=>?_,h4.mono (fun k z=>.inl ((d k).2 z))⟩;rcases z with z|z|z
 ·exact .inl ((d k).2 (.inl z))
 ·rcases e with e|e
  ·exact .inl ((d k).2 (.inr (.inl (z.trans e))))
  exact .inr (by rw [z];exact e)
 rcases h3 k z with h5|h5
 ·exact .inl ((d k).2 (.inr (.inr h5)))
 exact .inr h5
theorem aDT.same {tg y tc z:Nat} {v v2:Value} {T T2:List Int} {c c2:Int->Int} {t t2:List Int} (h:aDT w r q tg tc v T c t) (h2:aDT w r q y z v2 T2 c2 t2):y=tg/\v2=v:=by
 obtain ⟨U,h3⟩:=h.row;obtain ⟨U2,h4⟩:=h2.row;have d:=(h3.cell 1 rfl).symm.trans (h4.cell 1 rfl);have e:=(h3.cell 2 rfl).symm.trans (h4.cell 2 rfl);simp at d e;exact ⟨d.1.symm,e.symm⟩
theorem RL.mk (h:gX l i j) (e:Fam w0 w (RL l i j q r m)):∃ z y v T,aDT w r q z y v T m.col m.list:=by
 obtain ⟨S,⟨z,y,v,T,d,_⟩,_⟩:=e.get j (RL.self h);exact ⟨z,y,v,T,d⟩
theorem RL.mkT (h:gX l i j) (hf:Fam w0 w (RL l i j q r m)):∃ tg tc v T,aDT w r q tg tc v T m.col m.list/\∀ (w':World) (y d:Nat) (v':Value) (T':List Int) (c:Int->Int) (t:List Int),aDT w' r q y d v' T' c t->(y=tg\/w.heap.size<=y)->
  (∀ g,v'.ownBlock=some g->v.ownBlock=some g\/w.heap.size<=g)->aI (fun k=>k=r\/k=tg\/v.ownBlock=some k) w w'->Fam w0 w' (RL l i j q r ⟨m.M,c,t⟩):=by
 obtain ⟨tg,tc,v,T,hm⟩:=RL.mk h hf;refine ⟨tg,tc,v,T,hm,fun w' y d v' T' c t h1 h2 h3 h4=>?_⟩;rw [<-RL.turn c t];refine hf.turn j (RL.self h) fun S e=>?_;obtain ⟨h7,h6,v2,T2,h0,e⟩:=e;obtain ⟨rfl,rfl⟩:=hm.same h0;refine ⟨fun k=>k=r\/k=y\/v'.ownBlock=some k,⟨y,d,v',T',h1,fun k=>Iff.rfl⟩,fun k z=>?_,h4.mono (fun k z=>.inl ((e k).2 z))⟩;rcases z with z|z|z
 ·exact .inl ((e k).2 (.inl z))
 ·rcases h2 with h2|h2
  ·exact .inl ((e k).2 (.inr (.inl (z.trans h2))))
  exact .inr (by rw [z];exact h2)
 rcases h3 k z with h5|h5
 ·exact .inl ((e k).2 (.inr (.inr h5)))
 exact .inr h5
end
end Go.Proofs.YthflghdaejbdkaaGreat
namespace Go.Proofs.YthflghdaejbdkaaGreat
open _root_.Go.Proofs.Tryz (prog)
open Go.RowKit Go.Maps
set_option maxRecDepth 100000
set_option linter.unusedVariables false
def NoA:Asn:=⟨fun _ S=>∀ k,¬ S k,fun h _ _=>h,fun h hk=>absurd hk (h _)⟩
def aRs (L:List Asn) (w:World) (S:Nat->Prop) (T:Nat->Nat->Prop):Prop:=
 (∀ (i:Nat) (A:Asn),L[i]?=some A->A.holds w (T i))/\(∀ i j,i<L.length->j<L.length->i≠j->∀ k,T i k->¬ T j k)/\∀ k,S k↔∃ i,i<L.length/\T i k
def aQZ (L:List Asn):Asn:=
 ⟨fun w S=>∃ T,aRs L w S T,
  fun ⟨T,d,h2,z⟩ ho hd=>⟨T,fun i A y=>A.keep (d i A y) ho (fun k e x=>hd k e ((z k).2 ⟨i,(List.getElem?_eq_some_iff.1 y).1,x⟩)),h2,z⟩,
  fun ⟨T,d,h2,z⟩ e=>by
   obtain ⟨i,y,hT⟩:=(z _).1 e;exact (L[i]'y).lt (d i _ (List.getElem?_eq_getElem y)) hT⟩
def aLe {X:Type} (P:X->Prop) (F:X->List Asn):Asn:=
 ⟨fun w S=>∃ x,P x/\(aQZ (F x)).holds w S,fun ⟨x,h1,h2⟩ ho hd=>⟨x,h1,(aQZ (F x)).keep h2 ho hd⟩,fun ⟨x,_,h2⟩ hk=>(aQZ (F x)).lt h2 hk⟩
section
variable {w0 w:World} {l L:List Asn} {i:Nat}
theorem Fam.selC (h:Fam w0 w l) {z:List Asn} (σ:Nat->Nat) (d:∀ i A,z[i]?=some A->l[σ i]?=some A) (h2:∀ i j,i<z.length->j<z.length->i≠j->σ i≠σ j):Fam w0 w z:=by
 obtain ⟨e,S,a,b,c⟩:=h;have y:∀ i,i<z.length->σ i<l.length:=fun i hi=>(List.getElem?_eq_some_iff.1 (d i _ (List.getElem?_eq_getElem hi))).1;exact ⟨e,fun i=>S (σ i),fun i A hi=>a _ A (d i A hi),fun i j hi hj hij=>b _ _ (y i hi) (y j hj) (h2 i j hi hj hij),fun i hi=>c _ (y i hi)⟩
theorem Fam.bV (h:Fam w0 w l) (i:Nat) {b T:Nat} {cs:List Value} (z:l[i]?=some (eG b T cs)) (j:Nat) (v:Value):Fam w0 (w.setCell ⟨b,j,none⟩ v) (l.set i (eG b T (cs.set j v))):=
 h.turn i z fun S y=>⟨S,⟨y.1.set j v,y.2⟩,fun k hk=>.inl hk,(aI.refl _ _).set (.inl ((y.2 b).2 rfl)) _⟩
theorem Fam.aPV {X:Type} {P:X->Prop} {F:X->List Asn} (h:Fam w0 w l) (hi:l[i]?=some (aLe P F)):∃ x,P x/\Fam w0 w (F x ++ l.set i NoA):=by
 obtain ⟨h0,S,h1,h2,h3⟩:=h;have d:=(List.getElem?_eq_some_iff.1 hi).1;obtain ⟨x,hx,T,t1,t2,t3⟩:=h1 i _ hi;have h4:(F x ++ l.set i NoA).length=(F x).length+l.length:=by rw [List.length_append,List.length_set]
 refine ⟨x,hx,h0,fun j=>if j<(F x).length then T j else if j - (F x).length=i then (fun _=>False) else S (j - (F x).length),fun j A hj=>?_,fun a b ha hb hab k=>?_,fun j hj k z=>?_⟩
 ·by_cases e:j<(F x).length
  ·simp only [e,if_true];rw [List.getElem?_append_left e] at hj;exact t1 j A hj
  simp only [e,if_false];rw [List.getElem?_append_right (by omega)] at hj
  by_cases y:j - (F x).length=i
  ·simp only [y,if_true];rw [y,List.getElem?_set_self d] at hj
   cases hj
   exact fun k z=>z
  simp only [y,if_false];rw [List.getElem?_set_ne (fun x=>y x.symm)] at hj;exact h1 _ A hj
 ·rw [h4] at ha hb
  by_cases ea:a<(F x).length
  ·simp only [ea,if_true]
   by_cases eb:b<(F x).length
   ·simp only [eb,if_true];exact t2 a b ea eb hab k
   simp only [eb,if_false]
   by_cases y:b - (F x).length=i
   ·simp only [y,if_true];exact fun _ h=>h
   simp only [y,if_false];exact fun z=>h2 i (b - (F x).length) d (by omega) (fun e=>y e.symm) k ((t3 k).2 ⟨a,ea,z⟩)
  simp only [ea,if_false]
  by_cases e1:a - (F x).length=i
  ·simp only [e1,if_true];exact fun h=>h.elim
  simp only [e1,if_false]
  by_cases eb:b<(F x).length
  ·simp only [eb,if_true];exact fun z h5=>h2 (a - (F x).length) i (by omega) d e1 k z ((t3 k).2 ⟨b,eb,h5⟩)
  simp only [eb,if_false]
  by_cases y:b - (F x).length=i
  ·simp only [y,if_true];exact fun _ h=>h
  simp only [y,if_false];exact h2 _ _ (by omega) (by omega) (by omega) k
 rw [h4] at hj
 by_cases e:j<(F x).length
 ·simp only [e,if_true] at z;exact h3 i d k ((t3 k).2 ⟨j,e,z⟩)
 simp only [e,if_false] at z
 by_cases y:j - (F x).length=i
 ·simp only [y,if_true] at z
 simp only [y,if_false] at z;exact h3 _ (by omega) k z
theorem Fam.aKQ {X:Type} {P:X->Prop} {F:X->List Asn} {L l:List Asn} (x:X) (hx:P x) (hF:F x=L) (h:Fam w0 w (L ++ l)) (hi:l[i]?=some NoA):Fam w0 w (l.set i (aLe P F)):=by
 obtain ⟨h0,S,h1,h2,h3⟩:=h;have h4:=(List.getElem?_eq_some_iff.1 hi).1;have h7:(L ++ l).length=L.length+l.length:=List.length_append;have h6:(aQZ (F x)).holds w (fun k=>∃ j,j<L.length/\S j k):=by
  rw [hF];exact ⟨S,fun j A y=>h1 j A (by rw [List.getElem?_append_left (List.getElem?_eq_some_iff.1 y).1];exact y),fun a b ha hb d=>h2 a b (by omega) (by omega) d,fun k=>Iff.rfl⟩
 refine ⟨h0,fun j=>if j=i then (fun k=>∃ j,j<L.length/\S j k) else S (L.length+j),fun j A y=>?_,fun a b ha hb d k=>?_,fun j y k z=>?_⟩
 ·by_cases e:j=i
  ·simp only [e,if_true];rw [e,List.getElem?_set_self h4] at y
   cases y
   exact ⟨x,hx,h6⟩
  simp only [e,if_false];rw [List.getElem?_set_ne (fun x=>e x.symm)] at y;exact h1 _ A (by rw [List.getElem?_append_right (by omega)];simpa using y)
 ·rw [List.length_set] at ha hb
  by_cases ea:a=i
  ·simp only [ea,if_true];have eb:b≠i:=fun e=>d (ea.trans e.symm);simp only [eb,if_false];rintro ⟨j,y,z⟩;exact h2 j (L.length+b) (by omega) (by omega) (by omega) k z
  simp only [ea,if_false]
  by_cases eb:b=i
  ·simp only [eb,if_true];rintro z ⟨j,y,h5⟩;exact h2 (L.length+a) j (by omega) (by omega) (by omega) k z h5
  simp only [eb,if_false];exact h2 _ _ (by omega) (by omega) (by omega) k
 rw [List.length_set] at y
 by_cases e:j=i
 ·simp only [e,if_true] at z;obtain ⟨j',h8,z⟩:=z;exact h3 j' (by omega) k z
 simp only [e,if_false] at z;exact h3 (L.length+j) (by omega) k z
theorem Fam.aNK {X:Type} {P:X->Prop} {F:X->List Asn} {L l:List Asn} (x:X) (hx:P x) (d:F x=L) (h:Fam w0 w (L ++ l)):Fam w0 w (l ++ [aLe P F]):=by
 have y:Fam w0 w (L ++ (l ++ [NoA])):=by
  rw [<-List.append_assoc];exact h.add ⟨Only.refl _ _,fun _=>False,fun _ hk=>hk,fun _ hk=>hk.elim⟩
 have z:=y.aKQ (i:=l.length) x hx d (by simp);rwa [List.set_append_right _ _ (Nat.le_refl _),Nat.sub_self] at z
theorem Fam.aRy {A:Asn} (h:Fam w0 w (A :: l)):Fam w0 w l:=
 h.selC Nat.succ (fun i B y=>by simpa using y) (fun i j _ _ hij e=>hij (Nat.succ.inj e))
theorem Fam.rest (h:Fam w0 w (L ++ l)):Fam w0 w l:=
 h.selC (fun i=>L.length+i) (fun i B hi=>by rw [List.getElem?_append_right (by omega)];simpa using hi) (fun i j _ _ y e=>y (by omega))
theorem aIZ {i:Nat} {A:Asn}:(l.set i NoA).set i A=l.set i A:=by rw [List.set_set]
theorem aKv {i:Nat} (h:i<l.length):(l.set i NoA)[i]?=some NoA:=List.getElem?_set_self h
end
end Go.Proofs.YthflghdaejbdkaaGreat
