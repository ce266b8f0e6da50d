/- Lemmas of this claim. -/
import Derived.Test.YthflghdaejbdkaaGreatXdCyOk
namespace Go.Proofs.YthflghdaejbdkaaGreat
set_option linter.unusedVariables false
set_option maxRecDepth 100000
section
variable {c:Co}
def Co.mu (c:Co):Nat:=if c.ph=0 then 0 else if c.ph=1 then 30000+c.m.left else if c.ph=2 then 20000+(if c.t.ph=0 then c.m.left else 300+c.t.mu c.m) else if c.ph=3 then 10000+c.sw.length else 1+(8*c.pages - c.mv)
theorem aLZ {t:Tb} {m:Mk} (h:t.Good m):t.mu m<=1412:=by
 have:=Mk.left_le (m:=m);have:=h.b.le;unfold Tb.mu;omega
theorem vV (m:Mk):m.white.length<=192:=by
 have h1:m.white.length<=m.M.handles.length:=List.length_filter_le _ _;have h2:m.M.handles.length=m.used:=(Mk.aEu m).symm;have h3:m.used<=192:=pU _ _;omega
theorem Co.Okc.uH (h:c.Okc):c.sw.length<=192:=aEM h.sn (fun x hx=>h.hf.ok.inR (h.su x hx))
theorem Co.aKN (h:c.Okc):c.mu<=30192:=by
 have h1:=Mk.left_le (m:=c.m);have h2:=aLZ h.tg;have h3:=h.uH;have h4:=h.pg;unfold Co.mu;split
 ·omega
 split
 ·omega
 split
 ·split<;>omega
 split
 ·omega
 omega
theorem aCo (hm:c.m.Ok) (hl:c.m.list≠[]):c.mark.2.m.left+1=c.m.left:=Mk.left_step hm hl
theorem aFy (c:Co) (s:List Int):(c.gX s).2.mu=10000+s.length:=by
 have h:∀ d:Co,d.ph=3->d.mu=10000+d.sw.length:=fun d hd=>by unfold Co.mu;rw [if_neg (by omega),if_neg (by omega),if_neg (by omega),if_pos hd]
 exact h _ rfl
theorem Co.mu_step (h:c.Okc) (hp:c.ph≠0):c.step.2.2.mu<c.mu:=by
 have aSE:=Mk.left_le (m:=c.m);unfold Co.step;rw [if_neg hp]
 by_cases h1:c.ph=1
 ·rw [if_pos h1];have e1:c.mu=30000+c.m.left:=by unfold Co.mu;rw [if_neg hp,if_pos h1]
  by_cases hl:c.m.list=[]
  ·rw [if_pos hl,e1];have hk:=h.iU h1 hl;have h3:=aLZ hk.tg;have h4:c.iU.2.m.left=c.m.left:=rfl;show c.iU.2.mu<_;have e2:c.iU.2.mu=20000+(if c.iU.2.t.ph=0 then c.iU.2.m.left else 300+c.iU.2.t.mu c.iU.2.m):=by
    unfold Co.mu;rw [if_neg (show ¬ c.iU.2.ph=0 by show ¬ (2:Nat)=0;decide),if_neg (show ¬ c.iU.2.ph=1 by show ¬ (2:Nat)=1;decide),if_pos (show c.iU.2.ph=2 from rfl)]
   rw [e2];split<;>omega
  rw [if_neg hl,e1];have h2:=aCo (h.mo (.inl h1)) hl;show c.mark.2.mu<_;have e2:c.mark.2.mu=30000+c.mark.2.m.left:=by
   unfold Co.mu;rw [if_neg (show ¬ c.mark.2.ph=0 from hp),if_pos (show c.mark.2.ph=1 from h1)]
  omega
 rw [if_neg h1]
 by_cases h2:c.ph=2
 ·rw [if_pos h2];have hm:=h.mo (.inr h2);have emu:∀ d:Co,d.ph=2->d.mu=20000+(if d.t.ph=0 then d.m.left else 300+d.t.mu d.m):=fun d hd=>by
   unfold Co.mu;rw [if_neg (by omega),if_neg (by omega),if_pos hd]
  obtain ⟨k1,k2,k3⟩:=h.stepT h2;obtain ⟨g1,g2,g3,g4⟩:=h.tg.step hm;show c.refs.2.mu<_;rw [Co.iI,emu c h2];split
  ·rename_i e0;have hne:c.stepT.t.ph≠0:=k3 e0;have hc0:c.t.ph≠0:=fun e=>by
    have hs:c.t.step c.m=(0,0,13,c.t,c.m):=by unfold Tb.step;rw [if_pos e]
    rw [hs] at e0;cases e0
   show c.stepT.mu<_;rw [emu c.stepT h2,if_neg hne,if_neg hc0];rcases g4 hc0 with g5|g5
   ·have:c.stepT.t.mu c.stepT.m<c.t.mu c.m:=g5.2.2;omega
   rw [e0] at g5;cases g5.1
  rename_i e0;have hz:c.stepT.t.ph=0:=k2 e0;have hml:c.stepT.m=c.m:=by
   by_cases hc0:c.t.ph=0
   ·have hs:c.t.step c.m=(0,0,13,c.t,c.m):=by unfold Tb.step;rw [if_pos hc0]
    show (c.t.step c.m).2.2.2.2=_;rw [hs]
   exact (((h.pa h2 hc0).step h.tg hm hc0).2 e0).2.2
  unfold Co.tail;split
  ·have:=vV c.stepT.m;unfold Co.jJ;rw [aFy];omega
  rename_i hl;have h4:=aCo (k1.mo (.inr h2)) hl;show c.stepT.mark.2.mu<_;rw [emu c.stepT.mark.2 h2,if_pos (show c.stepT.mark.2.t.ph=0 from hz)];rw [hml] at h4;split
  ·omega
  omega
 rw [if_neg h2]
 by_cases h3:c.ph=3
 ·rw [if_pos h3];have e1:c.mu=10000+c.sw.length:=by unfold Co.mu;rw [if_neg hp,if_neg h1,if_neg h2,if_pos h3]
  show c.free.2.mu<_;rw [e1];unfold Co.free
  cases e:c.sw with
  | nil=>
   show (1+(8*c.pages - 0))<_;have:=h.pg;simp only [List.length_nil];omega
  | cons x r=>
   simp only;have e2:({ c with sw:=r,m:=c.m.put (c.m.M.release x).2 }:Co).mu=10000+r.length:=by
    unfold Co.mu;rw [if_neg (by exact hp),if_neg (by exact h1),if_neg (by exact h2),if_pos (by exact h3)]
   rw [e2,List.length_cons];omega
 rw [if_neg h3];have e1:c.mu=1+(8*c.pages - c.mv):=by unfold Co.mu;rw [if_neg hp,if_neg h1,if_neg h2,if_neg h3]
 show c.move.2.mu<_;rw [e1];unfold Co.move;split
 ·show 0<_;omega
 rename_i hc;have h5:=h.mv;have h6:c.mv≠8*c.pages:=fun e=>hc (.inl e);have e2:({ c with m:=c.m.put c.m.M.move.2.2,mv:=c.mv+1 }:Co).mu=1+(8*c.pages - (c.mv+1)):=by
  unfold Co.mu;rw [if_neg (by exact hp),if_neg (by exact h1),if_neg (by exact h2),if_neg (by exact h3)]
 show ({ c with m:=c.m.put c.m.M.move.2.2,mv:=c.mv+1 }:Co).mu<_;rw [e2];omega
theorem Co.Okc.steps (h:c.Okc):∀ k,(Co.steps k c).Okc
 | 0=>h
 | k+1=>(Co.Okc.steps h k).step
theorem Co.nK (h:c.Okc) (k:Nat) (hk:∀ j,j<k->(Co.steps j c).ph≠0):(Co.steps k c).mu+k<=c.mu:=by
 induction k with
 | zero=>exact Nat.le_refl _
 | succ k ih=>
  have h1:=ih (fun j hj=>hk j (by omega));have h2:=Co.mu_step (h.steps k) (hk k (by omega));show (Co.steps k c).step.2.2.mu+(k+1)<=_;omega
theorem Co.aCR (h:c.Okc):(Co.steps c.aJT c).ph=0/\(∀ j,j<c.aJT->(Co.steps j c).ph≠0)/\c.aJT<=31000:=by
 have hex:∃ i,(Co.steps i c).ph=0/\∀ j,j<i->(Co.steps j c).ph≠0:=by
  have h0:=dN (fun i=>decide ((Co.steps i c).ph=0)) 31000;generalize fst (fun i=>decide ((Co.steps i c).ph=0)) 31000=i at h0;have hb:∀ j,j<i->(Co.steps j c).ph≠0:=fun j hj=>of_decide_eq_false (h0.1 j hj);have h1:=Co.nK h i hb;have h2:=Co.aKN h;exact ⟨i,of_decide_eq_true (h0.2 (by omega)),hb⟩
 have he:c.aJT=Classical.choose hex:=by unfold Co.aJT;rw [dif_pos hex]
 obtain ⟨h3,h4⟩:=Classical.choose_spec hex;rw [<-he] at h3 h4;have h1:=Co.nK h _ h4;have h2:=Co.aKN h;exact ⟨h3,h4,by omega⟩
theorem Co.aEe (h:c.Okc) {i:Nat} (hi:∀ j,j<i->(Co.steps j c).ph≠0) (he:(Co.steps i c).ph=0):i=c.aJT:=by
 obtain ⟨h1,h2,_⟩:=Co.aCR h;rcases Nat.lt_trichotomy i c.aJT with h3|h3|h3
 ·exact absurd he (h2 i h3)
 ·exact h3
 exact absurd h1 (hi _ h3)
theorem Co.aBh (h:c.Okc) (k:Nat):0<=Co.costs k c/\Co.costs k c<=60*(k:Int):=by
 induction k with
 | zero=>exact ⟨Int.le_refl 0,by show (0:Int)<=60*0;decide⟩
 | succ k ih=>
  show 0<=Co.costs k c+(Co.steps k c).step.1/\Co.costs k c+(Co.steps k c).step.1<=60*((k+1:Nat):Int)
  by_cases hp:(Co.steps k c).ph=0
  ·rw [Co.lW hp];show 0<=Co.costs k c+0/\Co.costs k c+0<=_;omega
  have:=(h.steps k).cost hp;omega
theorem Co.Ok.finish (h:c.Ok):c.finish.2.2.2.Ok/\c.finish.2.2.2.ph=0:=by
 unfold Co.finish;split
 ·rename_i e;exact ⟨h,e⟩
 exact ⟨h.steps _,(Co.aCR h.k).1⟩
theorem Co.Okc.pay (h:c.Okc) (hs:¬ c.stops):c.pay.Okc:=by
 have hp:c.ph≠0:=fun e=>hs (.inl e);have hc:=h.cost hp;have hge:c.step.1<=c.cr:=by
  rcases Int.lt_or_le c.cr c.step.1 with h1|h1
  ·exact absurd (.inr h1) hs
  exact h1
 exact (h.aFf hp (n:=c.cr - c.step.1) (by omega)).step
theorem Co.aMd (c:Co):c.pay.cr=c.cr - c.step.1\/(c.pay.ph=0/\c.pay.cr=0):=Co.aHB ({ c with cr:=c.cr - c.step.1 }:Co)
def Co.nu (c:Co):Nat:=if c.ph=0 then 0 else c.cr.toNat+1
theorem Co.aOs (h:c.Okc) (hs:¬ c.stops):c.pay.nu<c.nu:=by
 have hp:c.ph≠0:=fun e=>hs (.inl e);have hc:=h.cost hp;have hge:c.step.1<=c.cr:=by
  rcases Int.lt_or_le c.cr c.step.1 with h1|h1
  ·exact absurd (.inr h1) hs
  exact h1
 unfold Co.nu;rw [if_neg hp];split
 ·omega
 rename_i hq;rcases c.aMd with h1|h1
 ·rw [h1];omega
 exact absurd h1.1 hq
theorem Co.wP (h:c.Okc) (k:Nat) (hk:∀ j,j<k->¬ (Co.pays j c).stops):(Co.pays k c).Okc/\(Co.pays k c).nu+k<=c.nu/\(Co.pays k c).cr<=max c.cr 0:=by
 induction k with
 | zero=>exact ⟨h,Nat.le_refl _,by show c.cr<=_;omega⟩
 | succ k ih=>
  obtain ⟨h1,h2,h3⟩:=ih (fun j hj=>hk j (by omega));have hn:=hk k (by omega);have h4:=Co.aOs h1 hn;refine ⟨h1.pay hn,by show (Co.pays k c).pay.nu+(k+1)<=_;omega,?_⟩;show (Co.pays k c).pay.cr<=_;have hp:(Co.pays k c).ph≠0:=fun e=>hn (.inl e);have hc:=h1.cost hp;rcases (Co.pays k c).aMd with h5|h5<;>omega
theorem Co.gK (h:c.Okc):(Co.pays c.gives c).stops/\(∀ j,j<c.gives->¬ (Co.pays j c).stops)/\c.gives<=c.nu:=by
 classical
 have hex:∃ i,(Co.pays i c).stops/\∀ j,j<i->¬ (Co.pays j c).stops:=by
  have h0:=dN (fun i=>decide ((Co.pays i c).stops)) (c.nu+1);generalize fst (fun i=>decide ((Co.pays i c).stops)) (c.nu+1)=i at h0;have hb:∀ j,j<i->¬ (Co.pays j c).stops:=fun j hj=>of_decide_eq_false (h0.1 j hj);have h1:=(Co.wP h i hb).2.1;exact ⟨i,of_decide_eq_true (h0.2 (by omega)),hb⟩
 have he:c.gives=Classical.choose hex:=by unfold Co.gives;rw [dif_pos hex]
 obtain ⟨h3,h4⟩:=Classical.choose_spec hex;rw [<-he] at h3 h4;have h1:=(Co.wP h _ h4).2.1;exact ⟨h3,h4,by omega⟩
theorem Co.vO (h:c.Okc) {i:Nat} (hi:∀ j,j<i->¬ (Co.pays j c).stops) (he:(Co.pays i c).stops):i=c.gives:=by
 obtain ⟨h1,h2,_⟩:=Co.gK h;rcases Nat.lt_trichotomy i c.gives with h3|h3|h3
 ·exact absurd he (h2 i h3)
 ·exact h3
 exact absurd h1 (hi _ h3)
theorem Co.Okc.more (h:c.Okc) (hp:c.ph≠0) {n:Int} (hn:0<=n):(c.more n).Okc:=h.aFf hp (by have:=h.cr1;omega)
theorem Co.Ok.give (h:c.Ok) {n:Int} (hn:0<=n):(c.give n).2.Ok:=by
 unfold Co.give;split
 ·exact h
 rename_i hp;have h1:=h.k.more hp hn;obtain ⟨h2,h3,_⟩:=Co.gK h1;have h4:=(Co.wP h1 _ h3).1;refine ⟨h4,?_⟩;show (Co.pays (c.more n).gives (c.more n)).cr<=60;rcases h2 with h2|h2
 ·have:=h4.c0 h2;omega
 by_cases hq:(Co.pays (c.more n).gives (c.more n)).ph=0
 ·have:=h4.c0 hq;omega
 have:=(h4.cost hq).2.1;omega
theorem Co.Ok.jF (h:c.Ok) (n:Int):(c.jF n).2.2.Ok:=by
 unfold Co.jF;split
 ·exact h
 exact h.give (by omega)
theorem dD:c.bar=true↔c.ph=1\/c.ph=2:=by unfold Co.bar;exact decide_eq_true_iff
theorem aMi {m:Mk} {r:Int×Int×Hp}:(m.made r).2.2.M=r.2.2:=by unfold Mk.made;simp only;split<;>rfl
theorem Co.Ok.newObj (h:c.Ok) (k:Int) (l:List Bool):(c.newObj k l).2.2.Ok:=by
 unfold Co.newObj;split
 ·rename_i hb;have hp:=dD.1 hb;exact ⟨h.k.marker hp ((h.k.mo hp).aH k l) (fun x hx=>by show ((c.m.made (c.m.M.aH k l)).2.2.M.ob x).isSome=true;rw [aMi,(c.m.M.gY k l).old x hx];exact hx) aIx,h.cr2⟩
 rename_i hb;exact ⟨h.k.heap (fun e=>hb (dD.2 e)) (h.k.hf.aH k l) (fun x hx=>by rw [(c.m.M.gY k l).old x hx];exact hx),h.cr2⟩
theorem Co.Ok.gZ (h:c.Ok) (k a n:Int):(c.gZ k a n).2.2.Ok:=by
 unfold Co.gZ;split
 ·rename_i hb;have hp:=dD.1 hb;exact ⟨h.k.marker hp ((h.k.mo hp).aG k a n) (fun x hx=>by show ((c.m.made (c.m.M.aG k a n)).2.2.M.ob x).isSome=true;rw [aMi,(c.m.M.iY k a n).old x hx];exact hx) aIx,h.cr2⟩
 rename_i hb;exact ⟨h.k.heap (fun e=>hb (dD.2 e)) (h.k.hf.aG k a n) (fun x hx=>by rw [(c.m.M.iY k a n).old x hx];exact hx),h.cr2⟩
theorem Co.Ok.aH (h:c.Ok) (k:Int) (l:List Bool):(c.aH k l).2.2.Ok:=by
 unfold Co.aH;split
 ·exact h
 exact (h.give h.k.rt.1).newObj k l
theorem aAt {n:Int} (h0:0<=n) (h:n<=48):1<=aAu n/\aAu n<=7:=by
 unfold aAu;split
 ·rw [Int.tdiv_eq_ediv_of_nonneg (by omega)];omega
 omega
theorem Co.Ok.aG (h:c.Ok) (k a n:Int):(c.aG k a n).2.2.Ok:=by
 unfold Co.aG;split
 ·exact h
 rename_i hc;have h1:=aAt (n:=n) (by omega) (by omega);exact (h.give (Int.mul_nonneg h.k.rt.1 (by omega))).gZ k a n
theorem aMB {m:Mk} (a s v:Int):(m.store a s v).2.M=(m.M.set a s v).2:=by
 unfold Mk.store;simp only;split
 ·rw [Mk.oM,Mk.oM];rfl
 rfl
theorem Co.Ok.store (h:c.Ok) (a s v:Int):(c.store a s v).2.Ok:=by
 unfold Co.store;split
 ·exact h
 split
 ·rename_i hb;have hp:=dD.1 hb;exact ⟨h.k.marker hp ((h.k.mo hp).store a s v) (fun x hx=>by rw [aMB,Hp.nN];exact hx) (aKn a s v),h.cr2⟩
 rename_i hb;exact ⟨h.k.heap (fun e=>hb (dD.2 e)) (h.k.hf.set a s v) (fun x hx=>by rw [Hp.nN];exact hx),h.cr2⟩
theorem aMp {t:Tb} {m:Mk} (k x g:Int):(t.add m k x g).2.2.ph=t.ph:=by
 unfold Tb.add;split
 ·rfl
 split
 ·rfl
 split
 ·rfl
 split<;>rfl
theorem aLU {t:Tb} {m:Mk} (k x g:Int) {i:Nat} (hi:i<(t.add m k x g).2.2.ents.length):(i<t.ents.length/\eAt (t.add m k x g).2.2.ents i=eAt t.ents i)\/((eAt (t.add m k x g).2.2.ents i).tgt=x/\(m.M.ob x).isSome=true):=by
 unfold Tb.add at hi ⊢;split at hi
 ·rename_i h;rw [if_pos h];exact .inl ⟨hi,rfl⟩
 rename_i h1;rw [if_neg h1];split at hi
 ·rename_i h;rw [if_pos h];exact .inl ⟨hi,rfl⟩
 rename_i h2;rw [if_neg h2];split at hi
 ·rename_i h;rw [if_pos h];exact .inl ⟨hi,rfl⟩
 rename_i h3;rw [if_neg h3];split at hi
 ·rename_i h;rw [if_pos h];exact .inl ⟨hi,rfl⟩
 rename_i h4;rw [if_neg h4];have hi2:i<t.ents.length+1:=by
  have:i<(t.ents ++ [(⟨k,x,g⟩:En)]).length:=hi;simpa using this
 show (_/\eAt (t.ents ++ [⟨k,x,g⟩]) i=_)\/((eAt (t.ents ++ [⟨k,x,g⟩]) i).tgt=x/\_);rw [aBf _ _ hi2];split
 ·refine .inr ⟨rfl,?_⟩
  cases e:(m.M.ob x).isSome
  ·exact absurd e h3
  rfl
 exact .inl ⟨by omega,rfl⟩
theorem Co.Ok.refer (h:c.Ok) (k x g:Int):(c.refer k x g).2.2.Ok:=by
 unfold Co.refer;split
 ·exact h
 rename_i hp;obtain ⟨y,hy⟩:∃ y,y=if c.hid x then 0 else x:=⟨_,rfl⟩;rw [<-hy];have hk:=h.k;refine ⟨⟨hk.hf,hk.mo,hk.nl,hk.tg.add k y g,fun e=>by show (c.t.add c.m k y g).2.2.ph=0;rw [aMp];exact hk.t0 e,hk.p4,hk.sw,hk.su,hk.sn,fun i hi hm=>?_,fun e=>absurd e hp,fun e=>absurd e hp,hk.cr1,hk.c0,hk.rt,hk.pg,hk.mv⟩,h.cr2⟩;rcases aLU k y g hi with ⟨h1,h2⟩|⟨h1,h2⟩
 ·have hm2:(eAt (c.t.add c.m k y g).2.2.ents i).tgt∈c.sw:=hm;rw [h2] at hm2;exact hk.st i h1 hm2
 have hm2:(eAt (c.t.add c.m k y g).2.2.ents i).tgt∈c.sw:=hm;rw [h1] at hm2;have hy0:=(hk.hf.ok.inR h2).1;unfold Co.hid at hy;rw [if_neg hp] at hy
 by_cases e:x∈c.sw
 ·rw [decide_eq_true e] at hy;simp at hy;omega
 rw [decide_eq_false e] at hy;simp at hy;rw [hy] at hm2;exact e hm2
theorem Co.Ok.take (h:c.Ok):c.take.2.2.Ok:=by
 have hk:=h.k;have he:c.t.take.2.2.ents=c.t.ents/\c.t.take.2.2.ph=c.t.ph/\c.t.take.2.2.nx=c.t.nx/\c.t.take.2.2.fd=c.t.fd:=by
  unfold Tb.take;split<;>exact ⟨rfl,rfl,rfl,rfl⟩
 obtain ⟨e1,e2,e3,e4⟩:=he;refine ⟨⟨hk.hf,hk.mo,hk.nl,hk.tg.take,fun e=>by show c.t.take.2.2.ph=0;rw [e2];exact hk.t0 e,hk.p4,hk.sw,hk.su,hk.sn,fun i hi=>?_,fun e h2=>?_,fun e h2=>?_,hk.cr1,hk.c0,hk.rt,hk.pg,hk.mv⟩,h.cr2⟩
 ·have hi2:i<c.t.take.2.2.ents.length:=hi;show (eAt c.t.take.2.2.ents i).tgt∉c.sw;rw [e1] at hi2 ⊢;exact hk.st i hi2
 ·have h3:c.t.take.2.2.ph≠0:=h2;rw [e2] at h3;refine (hk.pa e h3).move (t':=c.t.take.2.2) e1 (fun i hi=>by rw [e2,e3]) (fun e5 i hi hkd hf=>?_);rw [e4] at hf;rw [e2] at e5;exact (hk.pa e h3).f e5 i hi hkd hf
 have h3:c.t.take.2.2.ph=0:=h2;rw [e2] at h3;intro i hi;have hi2:i<c.t.take.2.2.ents.length:=hi;show (eAt c.t.take.2.2.ents i).fine c.m;rw [e1] at hi2 ⊢;exact hk.al e h3 i hi2
theorem Co.Ok.target (h:c.Ok) (i:Int):(c.target i).2.2.Ok:=by
 unfold Co.target;split
 ·exact h
 split
 ·exact h
 show (if c.ph=1 then _ else _:Co).Ok;split
 ·rename_i hp;exact ⟨h.k.marker (.inl hp) ((h.k.mo (.inl hp)).bH _) (fun x hx=>by rw [Mk.oM];exact hx) vF,h.cr2⟩
 exact h
theorem Co.Ok.begin (h:c.Ok) (l:List Int):(c.begin l).2.Ok:=by
 unfold Co.begin;split
 ·exact h
 split
 ·exact h
 split
 ·exact h
 rename_i h1 h2 h3;have hk:=h.k;have h0:c.ph=0:=Classical.not_not.1 h2;have ht:=hk.t0 (by omega);have hM:((Mk.start c.m.M).bC l).M=c.m.M:=Mk.qA _ _;refine ⟨⟨by show ((Mk.start c.m.M).bC l).M.OkF;rw [hM];exact hk.hf,fun _=>Mk.Ok.bC _ _ (Mk.Ok.start hk.hf),fun e=>absurd rfl e,hk.tg.marker (fun x hx=>by show (((Mk.start c.m.M).bC l).M.ob x).isSome=true;rw [hM];exact hx),fun _=>ht,by show 1<=4;omega,fun _=>hk.sw (by omega),fun x hx=>by show (((Mk.start c.m.M).bC l).M.ob x).isSome=true;rw [hM];exact hk.su x hx,hk.sn,hk.st,fun e=>by (cases e),fun e=>by (cases e),by show -193<=-1 - (l.length:Int);omega,fun e=>by (cases e),hk.rt,hk.pg,Nat.zero_le _⟩,by show -1 - (l.length:Int)<=60;omega⟩
theorem Co.Ok.new {n:Nat} {r:Int} (h1:1<=n) (h24:n<=24) (hr:0<=r/\r<=100):(Co.new n r).Ok:=
 ⟨⟨Hp.OkF.new h1 h24,fun e=>by rcases e with e|e<;>(cases e),fun _ _=>rfl,Tb.Good.new,fun _=>rfl,Nat.zero_le _,fun _=>rfl,fun x hx=>by (cases hx),List.nodup_nil,fun i hi=>absurd hi (Nat.not_lt_zero _),fun e=>by (cases e),fun e=>by (cases e),by show (-193:Int)<=0;decide,fun _=>rfl,hr,⟨h1,h24⟩,Nat.zero_le _⟩,by show (0:Int)<=60;decide⟩
end
def aQc (o:Option Th):List Int:=match o with|none=>[]|some o=>o.blocks
def Hp.blks (M:Hp):Nat->List Int
 | 0=>[]
 | k+1=>M.blks k ++ aQc (M.ob ((k:Int)+1))
section
variable {M:Hp} {P:Pl}
theorem aBn {k:Nat} {a:Int}:a∈M.blks k↔∃ j:Nat,j<k/\∃ o,M.ob ((j:Int)+1)=some o/\a∈o.blocks:=by
 induction k with
 | zero=>simp [Hp.blks]
 | succ k ih=>
  unfold Hp.blks;rw [List.mem_append,ih];constructor
  ·rintro (⟨j,hj,h⟩|h)
   ·exact ⟨j,by omega,h⟩
   cases e:M.ob ((k:Int)+1) with
   | none=>rw [e] at h;cases h
   | some o=>rw [e] at h;exact ⟨k,by omega,o,e,h⟩
  rintro ⟨j,hj,o,ho,h⟩
  by_cases e:j=k
  ·subst e;right;rw [ho];exact h
  left;exact ⟨j,by omega,o,ho,h⟩
theorem aLS (k:Nat):(M.blks k).length=lN (fun j=>aDj (M.ob ((j:Int)+1))) k:=by
 induction k with
 | zero=>rfl
 | succ k ih=>
  unfold Hp.blks lN;rw [List.length_append,ih];congr 1
  cases M.ob ((k:Int)+1)<;>rfl
theorem aAR {l:List Int} {a:Int}:a∈l↔∃ m,m<l.length/\gI l m=a:=by
 rw [List.mem_iff_getElem];constructor
 ·rintro ⟨m,hm,e⟩;exact ⟨m,hm,by rw [aEY hm];exact e⟩
 rintro ⟨m,hm,e⟩;exact ⟨m,hm,by rw [aEY hm] at e;exact e⟩
theorem aHd (hk:M.Ok) (k:Nat):(M.blks k).Nodup:=by
 induction k with
 | zero=>exact List.nodup_nil
 | succ k ih=>
  unfold Hp.blks;rw [List.nodup_append];refine ⟨ih,?_,fun a ha b hb e=>?_⟩
  ·cases e:M.ob ((k:Int)+1) with
   | none=>exact List.nodup_nil
   | some o=>
    show o.blocks.Nodup;rw [List.nodup_iff_pairwise_ne,List.pairwise_iff_getElem];intro i j hi hj hij e2;have:=hk.dj _ o e _ o e i hi j hj (by rw [aEY hi,aEY hj];exact e2);omega
  subst e;obtain ⟨j,hj,o,ho,h1⟩:=aBn.1 ha
  cases e2:M.ob ((k:Int)+1) with
  | none=>rw [e2] at hb;cases hb
  | some o2=>
   rw [e2] at hb;obtain ⟨m1,h2,h3⟩:=aAR.1 h1;obtain ⟨m2,h4,h5⟩:=aAR.1 (show a∈o2.blocks from hb);have:=(hk.dj _ o ho _ o2 e2 m1 h2 m2 h4 (h3.trans h5.symm)).1;omega
theorem Hp.OkF.aGk (hk:M.OkF) {x:Nat} (hx:x<16*M.P.n) (hl:M.P.mW x=true):∃ h o,M.ob h=some o/\(x:Int)∈o.blocks:=by
 have h1:(M.P.lives (16*M.P.n)).length=(M.blks 192).length:=by
  rw [Pl.aIz,Pl.xO hk.ok.p,aLS];exact hk.full
 have hsub:∀ a∈M.blks 192,a∈(M.P.lives (16*M.P.n)).map (fun (n:Nat)=>(n:Int)):=fun a ha=>by
  obtain ⟨j,hj,o,ho,h2⟩:=aBn.1 ha;obtain ⟨m,h3,rfl⟩:=aAR.1 h2;have hb:=hk.ok.bk _ o ho m h3;have hc:=hk.ok.isC ho (m:=m) h3;have h4:=hb.range hc;have h5:=hb.begin hc;refine List.mem_map.2 ⟨(gI o.blocks m).toNat,Pl.aCp.2 ⟨by have:=hc.sz;omega,?_⟩,by omega⟩;have h6:((gI o.blocks m).toNat:Int)=gI o.blocks m:=by omega
  unfold Pl.mW;rw [h6,h5];simp
 have h2:=(kR (aHd hk.ok 192) hsub).2 (by rw [List.length_map,h1];exact Nat.le_refl _);have h3:=h2 (x:Int) (List.mem_map.2 ⟨x,Pl.aCp.2 ⟨hx,hl⟩,rfl⟩);obtain ⟨j,hj,o,ho,h4⟩:=aBn.1 h3;exact ⟨_,o,ho,h4⟩
theorem Hp.OkF.aGd (hk:M.OkF) (he:M.P.move.2.2.1=0):∃ h o,M.ob h=some o/\o.place M.P.move.1<o.blocks.length:=by
 cases hp:M.P.pair with
 | none=>rw [Pl.fJ hp] at he;cases he
 | some x=>
  obtain ⟨i,j⟩:=x;have hp2:=Pl.iW hp;have hcn:(M.P.pg i).cls≠-1:=by rcases hp2.c with e|e|e<;>omega
  have ht:=(hk.ok.p i hp2.hi).top hcn;have hblk:=hp2.c.blk ht.1;have hmv:M.P.move.1=((16*i+(M.P.pg i).top (M.P.pg i).cls*bsz (M.P.pg i).cls:Nat):Int):=by rw [Pl.fH hp]
  have hb:Blk M.P (M.P.pg i).cls M.P.move.1 (fun y=>(M.P.pg i).cell ((M.P.pg i).top (M.P.pg i).cls*bsz (M.P.pg i).cls+y)):=⟨i,(M.P.pg i).top (M.P.pg i).cls,hmv,⟨hp2.hi,rfl,ht.1,ht.2,fun _ _=>rfl⟩⟩;have hbg:=hb.begin hp2.c;rw [hmv] at hbg ⊢;have hi:=hp2.hi;have hs:=hp2.c.sz;obtain ⟨h,o,ho,hm⟩:=hk.aGk (x:=16*i+(M.P.pg i).top (M.P.pg i).cls*bsz (M.P.pg i).cls) (by omega) (by unfold Pl.mW;rw [hbg];simp);obtain ⟨m,h1,h2⟩:=aAR.1 hm;exact ⟨h,o,ho,Th.aAN h1 h2⟩
theorem aBl (P:Pl) (a n i:Int):(P.setCell a n).2.class i=P.class i:=by
 unfold Pl.setCell;split
 ·unfold Pl.class;have hn:(P.set (a.toNat / 16) { P.pg (a.toNat / 16) with cell:=up (P.pg (a.toNat / 16)).cell (a.toNat % 16) n }).n=P.n:=rfl
  by_cases h:i<0\/(P.n:Int)<=i
  ·rw [if_pos h,hn,if_pos h]
  rw [if_neg h,hn,if_neg h];show ((up P.pg (a.toNat / 16) _ i.toNat).cls,(0:Int))=_
  by_cases e:i.toNat=a.toNat / 16
  ·rw [e,bK]
  rw [aW _ _ e]
 rfl
theorem nT (hk:P.ok) (he:P.move.2.2.1=0):(P.move.2.2.2.class (P.move.2.1.tdiv 16)).1=(P.class (P.move.1.tdiv 16)).1/\0<=P.move.1/\0<=P.move.2.1/\P.move.1<16*P.n/\P.move.2.1<16*P.n/\P.move.2.2.2.n=P.n:=by
 cases hp:P.pair with
 | none=>rw [Pl.fJ hp] at he;cases he
 | some x=>
  obtain ⟨i,j⟩:=x;have hp2:=Pl.iW hp;have hcn:(P.pg i).cls≠-1:=by rcases hp2.c with e|e|e<;>omega
  have ht:=((hk i hp2.hi).top hcn).1;have hblk:=(hp2.c.blk ht).1;have hg:=((hk j hp2.hj).gap (c:=(P.pg i).cls) hp2.c hp2.pj).1;have hblk2:=(hp2.c.blk hg).1;have hs:=hp2.c.sz;have hi:=hp2.hi;have hj:=hp2.hj;rw [Pl.fH hp];rw [hp2.same];simp only;have d1:(((16*i+(P.pg i).top (P.pg i).cls*bsz (P.pg i).cls:Nat):Int)).tdiv 16=(i:Int):=by
   rw [Int.tdiv_eq_ediv_of_nonneg (by omega)];omega
  have d2:(((16*j+(P.pg j).gap (P.pg i).cls*bsz (P.pg i).cls:Nat):Int)).tdiv 16=(j:Int):=by
   rw [Int.tdiv_eq_ediv_of_nonneg (by omega)];omega
  refine ⟨?_,by omega,by omega,by omega,by omega,rfl⟩;rw [d1,d2];unfold Pl.class;have hn:(P.moved i j).n=P.n:=rfl;rw [hn,if_neg (by omega),if_neg (by omega),Int.toNat_natCast,Int.toNat_natCast];show ((P.moved i j).pg j).cls=(P.pg i).cls;unfold Pl.moved;simp only;show (up (up P.pg j _) i _ j).cls=_;rw [aW _ _ (fun e=>hp2.ne e.symm),bK];rfl
theorem Hp.OkF.aCj (hk:M.OkF) (he:M.P.move.2.2.1=0):∃ h o,M.ob h=some o/\o.place M.P.move.1<o.blocks.length/\M.move=(h,0,Hp.fE M.P.move.2.2.2 M.ob h o (o.place M.P.move.1) M.P.move.2.1)/\M.move.2.2.ob h=some (o.moved (o.place M.P.move.1) M.P.move.2.1)/\M.P.move.2.1≠gI o.blocks (o.place M.P.move.1)/\(M.move.2.2.P.class (M.P.move.2.1.tdiv 16)).1=(M.P.class (M.P.move.1.tdiv 16)).1:=by
 obtain ⟨h,o,ho,hp⟩:=hk.aGd he;have hm:=sF hk.ok he ho hp;refine ⟨h,o,ho,hp,hm,?_,?_,?_⟩
 ·rw [hm];show dX M.ob h _ h=_;rw [aZ]
 ·have hc:=hk.ok.isC ho (m:=o.place M.P.move.1) hp;have hb:=hk.ok.bk h o ho _ hp;exact hb.xB hk.ok.p hc he
 rw [hm];show ((if o.place M.P.move.1=0 then M.P.move.2.2.2 else _:Pl).class _).1=_;split
 ·exact (nT hk.ok.p he).1
 rw [aBl];exact (nT hk.ok.p he).1
end
end Go.Proofs.YthflghdaejbdkaaGreat
