/- Lemmas of this claim. -/
import Derived.Test.YthflghdaejbdkaaGreatXcCyM
import Derived.Test.YthflghdaejbdkaaGreatXcCyStar
import Derived.Test.YthflghdaejbdkaaGreatXcOFull
namespace Go.Proofs.YthflghdaejbdkaaGreat
open Go.RowKit Go.Maps
set_option maxHeartbeats 12800000
set_option maxRecDepth 100000
set_option linter.unusedVariables false
theorem aQF {a b c:World} (y:Only [] a b) (z:Only [] b c):Below a.heap.size a c:=(y.trans z (by simp)).bel
end Go.Proofs.YthflghdaejbdkaaGreat
namespace Go.Proofs.YthflghdaejbdkaaGreat
set_option linter.unusedVariables false
set_option maxRecDepth 100000
theorem rD (P:Pl) (a n:Int):(P.setCell a n).2.n=P.n:=by unfold Pl.setCell;split<;>rfl
theorem aQb (P:Pl) (a:Int):(P.free a).2.n=P.n:=by
 unfold Pl.free;split
 ·split<;>rfl
 rfl
theorem aOE (P:Pl) (c:Int):(P.alloc c).2.2.n=P.n:=by
 unfold Pl.alloc;split
 ·rfl
 simp only;split
 ·rfl
 split<;>rfl
theorem aFI (P:Pl) (l:List Int):∀ k bs Q,dF P l k=some (bs,Q)->Q.n=P.n
 | 0,bs,Q,h=>by unfold dF at h;cases h;rfl
 | k+1,bs,Q,h=>by
  unfold dF at h
  cases e:dF P l k with
  | none=>rw [e] at h;cases h
  | some r=>
   obtain ⟨z,y⟩:=r;rw [e] at h;simp only at h;split at h
   ·cases h;exact (aOE _ _).trans (aFI P l k z y e)
   cases h
theorem aNE (P:Pl) (a:Int) (l:List Int):∀ k,(vN P a l k).n=P.n
 | 0=>rfl
 | k+1=>(rD _ _ _).trans (aNE P a l k)
theorem aQc (M:Hp) (o:Th):(M.add o).2.2.P.n=M.P.n:=by
 unfold Hp.add;split
 ·cases e:dF M.P (aS o.slots.length) (aS o.slots.length).length with
  | none=>rfl
  | some r=>
   obtain ⟨bs,Q⟩:=r;show (fK Q _ bs).n=_;unfold fK;rw [aNE,rD];exact aFI _ _ _ _ _ e
 rfl
theorem yF (M:Hp) (c:Int) (l:List Bool):(M.aH c l).2.2.P.n=M.P.n:=by
 unfold Hp.aH;split
 ·rfl
 exact aQc M _
theorem aAG (M:Hp) (k c n:Int):(M.aG k c n).2.2.P.n=M.P.n:=by
 unfold Hp.aG;split
 ·rfl
 split
 ·exact aQc M _
 rfl
theorem aOD (M:Hp) (h s v:Int):(M.set h s v).2.P.n=M.P.n:=by
 unfold Hp.set;split
 ·rfl
 split
 ·rfl
 split
 ·exact rD _ _ _
 rfl
theorem aJE (P:Pl) (l:List Int):∀ k,(iH P l k).n=P.n
 | 0=>rfl
 | k+1=>(aQb _ _).trans (aJE P l k)
theorem aJD (M:Hp) (h:Int):(M.release h).2.P.n=M.P.n:=by
 unfold Hp.release;split
 ·rfl
 split
 ·rfl
 exact aJE _ _ _
theorem aEG (P:Pl):P.move.2.2.2.n=P.n:=by
 cases y:P.pair with
 | none=>rw [Pl.fC y]
 | some x=>obtain ⟨i,j⟩:=x;rw [Pl.fB y];rfl
theorem aQa (M:Hp):M.move.2.2.P.n=M.P.n:=by
 unfold Hp.move;split
 ·split
  ·unfold Hp.fD;show (if _ then _ else _:Pl).n=_;split
   ·exact aEG _
   exact (rD _ _ _).trans (aEG _)
  exact aEG _
 rfl
theorem aBA (M:Hp) (h:Int):∀ k,(M.bK h k).P.n=M.P.n
 | 0=>rfl
 | k+1=>by
  unfold Hp.bK;split
  ·exact (aOD _ _ _ _).trans (aBA M h k)
  exact aBA M h k
theorem aFH (M:Hp) (l:List Int):∀ k,(M.cZ l k).P.n=M.P.n
 | 0=>rfl
 | k+1=>(aBA _ _ _).trans (aFH M l k)
def Co.Pn (c:Co):Prop:=c.m.M.P.n=c.pages
section
variable {c:Co}
theorem Co.Pn.of (h:c.Pn) {d:Co} (z:d.pages=c.pages) (y:d.m.M.P.n=c.m.M.P.n):d.Pn:=by unfold Co.Pn;rw [z,y];exact h
theorem Co.Pn.mark (h:c.Pn):c.mark.2.Pn:=h.of rfl (by show c.m.step.2.2.M.P.n=_;rw [Mk.mY])
theorem Co.Pn.dV (h:c.Pn) (s:List Int):(c.dV s).2.Pn:=h.of rfl (aFH _ _ _)
theorem Co.Pn.tail (h:c.Pn):c.tail.2.Pn:=by
 unfold Co.tail;split
 ·exact h.dV _
 exact h.mark
theorem Co.Okc.aOg (h:c.Okc) (y:c.ph=2):c.stepT.m.M=c.m.M:=(h.tg.step (h.mo (.inr y))).2.2.1
theorem Co.Pn.step (h:c.Pn) (z:c.Okc):c.step.2.2.Pn:=by
 unfold Co.step;split
 ·exact h
 split
 ·split
  ·exact h.of rfl rfl
  exact h.mark
 split
 ·rename_i d;show c.refs.2.Pn;rw [Co.eY];have y:c.stepT.Pn:=h.of rfl (by rw [z.aOg d]);split
  ·exact y
  exact y.tail
 split
 ·show c.free.2.Pn;unfold Co.free;split
  ·exact h.of rfl rfl
  exact h.of rfl (aJD _ _)
 show c.move.2.Pn;unfold Co.move;split
 ·exact h.of rfl rfl
 exact h.of rfl (aQa _)
theorem Co.Pn.steps (h:c.Pn) (y:c.Okc):∀ k,(Co.steps k c).Pn
 | 0=>h
 | k+1=>(Co.Pn.steps h y k).step (y.steps k)
theorem Co.Pn.zU (h:c.Pn) (n:Int):({ c with cr:=n }:Co).Pn:=h
theorem Co.Pn.pays (h:c.Pn) (d:c.Okc):∀ k,(∀ j,j<k->¬ (Co.pays j c).stops)->(Co.pays k c).Pn
 | 0,_=>h
 | k+1,hs=>by
  have y:=Co.Pn.pays h d k (fun j hj=>hs j (by omega));have z:=(Co.tJ d k (fun j hj=>hs j (by omega))).1;have hn:=hs k (by omega);have hp:(Co.pays k c).ph≠0:=fun e=>hn (.inl e);have hc:=z.cost hp;have h0:(Co.pays k c).step.1<=(Co.pays k c).cr:=by
   rcases Int.lt_or_le (Co.pays k c).cr (Co.pays k c).step.1 with y|y
   ·exact absurd (.inr y) hn
   exact y
  exact (y.zU _).step (z.zU hp (n:=(Co.pays k c).cr - (Co.pays k c).step.1) (by omega))
theorem Co.Pn.give (h:c.Pn) (z:c.Okc) {n:Int} (d:0<=n):(c.give n).2.Pn:=by
 unfold Co.give;split
 ·exact h
 rename_i e;have y:=z.more e d;exact Co.Pn.pays (c:=c.more n) h y _ (Co.fO y).2.1
theorem Co.Pn.fZ (h:c.Pn) (y:c.Okc) (n:Int):(c.fZ n).2.2.Pn:=by
 unfold Co.fZ;split
 ·exact h
 exact h.give y (by omega)
theorem Co.Pn.newObj (h:c.Pn) (k:Int) (l:List Bool):(c.newObj k l).2.2.Pn:=by
 unfold Co.newObj;split
 ·exact h.of rfl (by show (c.m.made (c.m.M.aH k l)).2.2.M.P.n=_;rw [aFK];exact yF _ _ _)
 exact h.of rfl (yF _ _ _)
theorem Co.Pn.dJ (h:c.Pn) (k a n:Int):(c.dJ k a n).2.2.Pn:=by
 unfold Co.dJ;split
 ·exact h.of rfl (by show (c.m.made (c.m.M.aG k a n)).2.2.M.P.n=_;rw [aFK];exact aAG _ _ _ _)
 exact h.of rfl (aAG _ _ _ _)
theorem Co.Pn.aH (h:c.Pn) (y:c.Okc) (k:Int) (l:List Bool):(c.aH k l).2.2.Pn:=by
 unfold Co.aH;split
 ·exact h
 exact (h.give y y.rt.1).newObj k l
theorem Co.Pn.aG (h:c.Pn) (y:c.Okc) (k a n:Int):(c.aG k a n).2.2.Pn:=by
 unfold Co.aG;split
 ·exact h
 rename_i d;have z:=uX (n:=n) (by omega) (by omega);exact (h.give y (Int.mul_nonneg y.rt.1 (by omega))).dJ k a n
theorem Co.Pn.store (h:c.Pn) (a s v:Int):(c.store a s v).2.Pn:=by
 unfold Co.store;split
 ·exact h
 split
 ·exact h.of rfl (by show (c.m.store a s v).2.M.P.n=_;rw [aIK];exact aOD _ _ _ _)
 exact h.of rfl (aOD _ _ _ _)
theorem Co.Pn.refer (h:c.Pn) (k x g:Int):(c.refer k x g).2.2.Pn:=by
 unfold Co.refer;split
 ·exact h
 exact h.of rfl rfl
theorem Co.Pn.target (h:c.Pn) (i:Int):(c.target i).2.2.Pn:=by
 unfold Co.target;split
 ·exact h
 split
 ·exact h
 show (if c.ph=1 then _ else _:Co).Pn;split
 ·exact h.of rfl (by show (c.m.bI _).M.P.n=_;rw [Mk.lS])
 exact h
theorem Co.Pn.begin (h:c.Pn) (l:List Int):(c.begin l).2.Pn:=by
 unfold Co.begin;split
 ·exact h
 split
 ·exact h
 split
 ·exact h
 exact h.of rfl (by show ((Mk.start c.m.M).bC l).M.P.n=_;rw [Mk.kN];rfl)
theorem Co.Pn.new (n:Nat) (r:Int):(Co.new n r).Pn:=rfl
theorem Co.Pn.take (h:c.Pn):c.take.2.2.Pn:=h
theorem Co.Pn.finish (h:c.Pn) (y:c.Okc):c.finish.2.2.2.Pn:=by
 unfold Co.finish;split
 ·exact h
 exact h.steps y _
end
set_option maxHeartbeats 1600000
theorem aCo {f g:Nat->Nat} {k:Nat} (h:∀ i,i<k->f i<=g i):jE f k<=jE g k:=by
 induction k with
 | zero=>exact Nat.le_refl _
 | succ k y=>exact Nat.add_le_add (y fun i z=>h i (by omega)) (h k (by omega))
def aDV (o:Option Th):Nat:=match o with|none=>0|some o=>o.slots.length
theorem aBF (M:Hp) (x:Int):M.len x=(aDV (M.ob x):Int):=by unfold Hp.len Hp.type aDV;cases M.ob x<;>rfl
theorem aFc (M:Hp) (x:Int):(M.blocks x).1.length=mP (M.ob x):=by unfold Hp.blocks mP;cases M.ob x<;>rfl
section
variable {M:Hp} {h h':Int} {o o':Th}
theorem aFw (z:M.Ok) (ho:M.ob h=some o) {s:Nat} (hs:s<o.slots.length) (y:M.ob h'=some o') {s':Nat} (h0:s'<o'.slots.length) (e:o.addr s=o'.addr s'):h=h'/\s=s':=by
 obtain ⟨a1,a2,_⟩:=z.aCr ho hs;obtain ⟨b1,b2,_⟩:=z.aCr y h0;have ca:=z.isC ho a1;have cb:=z.isC y b1;have ba:=z.bk h o ho _ a1;have bb:=z.bk h' o' y _ b1;rw [Th.addr_eq,Th.addr_eq] at e
 by_cases d:gI o.blocks (o.pF s)=gI o'.blocks (o'.pF s')
 ·obtain ⟨rfl,h2⟩:=z.dj h o ho h' o' y _ a1 _ b1 d;rw [ho] at y
  cases y
  refine ⟨rfl,?_⟩;have h3:o.vU s=o.vU s':=by rw [d] at e;omega
  unfold Th.pF at h2;unfold Th.vU at h3;split at h3
  ·rename_i hb;rw [if_pos hb,if_pos hb] at h2;omega
  omega
 rcases ba.apart ca bb cb d with h1|h1<;>omega
theorem aIp (y:M.Ok) (z:M.ob h=some o) {s:Nat} (hs:s<o.slots.length):0<=o.addr s/\o.addr s<16*(M.P.n:Int):=by
 obtain ⟨d,e,_⟩:=y.aCr z hs;have:=(y.bk h o z _ d).range (y.isC z d);rw [Th.addr_eq];omega
def aJA (o:Option Th):List Int:=match o with|none=>[]|some o=>(List.range o.slots.length).map (fun s=>o.addr s)
def Hp.aNL (M:Hp):Nat->List Int
 | 0=>[]
 | k+1=>M.aNL k ++ aJA (M.ob ((k:Int)+1))
theorem aCL {o:Option Th} {a:Int}:a∈aJA o↔∃ t,o=some t/\∃ s,s<t.slots.length/\t.addr s=a:=by
 cases o with
 | none=>simp [aJA]
 | some t=>simp [aJA]
theorem aGj {k:Nat} {a:Int}:a∈M.aNL k↔∃ j:Nat,j<k/\∃ t,M.ob ((j:Int)+1)=some t/\∃ s,s<t.slots.length/\t.addr s=a:=by
 induction k with
 | zero=>simp [Hp.aNL]
 | succ k z=>
  unfold Hp.aNL;rw [List.mem_append,z,aCL];constructor
  ·rintro (⟨j,y,h⟩|h)
   ·exact ⟨j,by omega,h⟩
   exact ⟨k,by omega,h⟩
  rintro ⟨j,y,h⟩
  by_cases e:j=k
  ·subst e;exact .inr h
  exact .inl ⟨j,by omega,h⟩
theorem aIo (hk:M.Ok) (k:Nat):(M.aNL k).Nodup:=by
 induction k with
 | zero=>exact List.nodup_nil
 | succ k ih=>
  unfold Hp.aNL;rw [List.nodup_append];refine ⟨ih,?_,fun a ha b hb e=>?_⟩
  ·cases e:M.ob ((k:Int)+1) with
   | none=>exact List.nodup_nil
   | some o=>
    show ((List.range o.slots.length).map (fun s=>o.addr s)).Nodup;rw [List.nodup_iff_pairwise_ne,List.pairwise_iff_getElem];intro i j hi z h1 y;simp only [List.length_map,List.length_range] at hi z;simp only [List.getElem_map,List.getElem_range] at y;have:=(aFw hk e hi e z y).2;omega
  subst e;obtain ⟨j,z,t,ht,s,hs,e1⟩:=aGj.1 ha;obtain ⟨t2,h0,s2,d,y⟩:=aCL.1 hb;have:=(aFw hk ht hs h0 d (e1.trans y.symm)).1;omega
theorem aNs (k:Nat):(M.aNL k).length=jE (fun j=>aDV (M.ob ((j:Int)+1))) k:=by
 induction k with
 | zero=>rfl
 | succ k y=>
  unfold Hp.aNL jE;rw [List.length_append,y];congr 1
  cases M.ob ((k:Int)+1) with
  | none=>rfl
  | some o=>simp [aJA,aDV]
theorem aLJ (y:M.Ok):jE (fun j=>aDV (M.ob ((j:Int)+1))) 192<=16*M.P.n:=by
 rw [<-aNs];have:=(jT (aIo y 192) (l2:=(List.range (16*M.P.n)).map (fun (n:Nat)=>(n:Int))) (fun a ha=>by
  obtain ⟨j,e,t,z,s,hs,d⟩:=aGj.1 ha;have:=aIp y z hs;exact List.mem_map.2 ⟨a.toNat,List.mem_range.2 (by omega),by omega⟩)).1
 simpa using this
theorem aKV (z:M.OkF):jE (fun j=>mP (M.ob ((j:Int)+1))) 192<=8*M.P.n:=by
 have y:jE (fun i=>(M.P.pg i).count) M.P.n=jE (fun j=>mP (M.ob ((j:Int)+1))) 192:=z.full;rw [<-y];exact aOb fun i _=>Pg.count_le _
end
def Mk.wtF (m:Mk) (k:Nat):Nat:=if (m.M.ob ((k:Int)+1)).isSome=true/\m.col ((k:Int)+1)≠2 then 1+aDV (m.M.ob ((k:Int)+1)) else 0
def Mk.wt (m:Mk):Nat:=jE m.wtF 192
section
variable {m m':Mk}
theorem aRv (y:m.M.OkF):m.wt<=24*m.M.P.n:=by
 have d:m.wt<=jE (fun j=>mP (m.M.ob ((j:Int)+1))+aDV (m.M.ob ((j:Int)+1))) 192:=aCo fun i _=>by
  unfold Mk.wtF;split
  ·rename_i h;obtain ⟨o,z⟩:=Option.isSome_iff_exists.1 h.1;have:=(y.ok.aAu z).1;rw [z];show 1+_<=o.blocks.length+_;omega
  omega
 rw [wG] at d;have:=aLJ y.ok;have:=aKV y;omega
theorem aEc (h:∀ k,((m'.M.ob k).isSome=true/\m'.col k≠2↔(m.M.ob k).isSome=true/\m.col k≠2)/\((m.M.ob k).isSome=true->aDV (m'.M.ob k)=aDV (m.M.ob k))):m'.wt=m.wt:=oC fun i _=>by
 unfold Mk.wtF
 by_cases e:(m.M.ob ((i:Int)+1)).isSome=true/\m.col ((i:Int)+1)≠2
 ·rw [if_pos e,if_pos ((h _).1.2 e),(h _).2 e.1]
 rw [if_neg e,if_neg (fun x=>e ((h _).1.1 x))]
theorem wE (x:Int):(m.bI x).wt=m.wt:=aEc fun k=>by
 rw [Mk.lS];refine ⟨?_,fun _=>rfl⟩;rcases Mk.qQ (m:=m) (x:=x) k with h|⟨_,_,y,z⟩
 ·rw [h]
 rw [y,z];simp
theorem aEb (h:m.Ok) (e:m.list≠[]):m.step.2.2.wt+(1+aDV (m.M.ob m.step.1))=m.wt:=by
 unfold Mk.step
 cases z:m.list with
 | nil=>exact absurd z e
 | cons x t=>
  obtain ⟨h1,h2⟩:=h.inR (x:=x) (by rw [z];simp);have hc:m.col x=1:=(h.gr x).1 (by rw [z];simp);have hu:=h.aCj (x:=x) (by rw [z];simp);obtain ⟨k0,h0,hx⟩:∃ k:Nat,k<192/\x=(k:Int)+1:=⟨(x - 1).toNat,by omega,by omega⟩;show (m.dN x).wt+(1+aDV (m.M.ob x))=m.wt;have hM:(m.dN x).M=m.M:=Mk.kN _ _;have y:=mW (f:=m.wtF) (g:=(m.dN x).wtF) (i:=k0) (k:=192) h0 (fun j hj h6=>by
   unfold Mk.wtF;rw [hM];have d:(j:Int)+1≠x:=by omega
   rcases Mk.aBl h z ((j:Int)+1) with ⟨_,y⟩|⟨_,y⟩|⟨_,y,h4,_⟩
   ·exact absurd y d
   ·rw [y]
   rw [y,h4];simp)
  have h4:(m.dN x).wtF k0=0:=by
   unfold Mk.wtF;rw [hM,<-hx];rcases Mk.aBl h z x with ⟨y,_⟩|⟨y,_⟩|⟨y,_⟩
   ·rw [y];simp
   ·exact absurd rfl y
   exact absurd rfl y
  have h5:m.wtF k0=1+aDV (m.M.ob x):=by
   unfold Mk.wtF;rw [<-hx,if_pos ⟨hu,by rw [hc];decide⟩]
  rw [h4,h5] at y;exact y
theorem aIz {r:Int×Int×Hp} (d:uZ m.M r):(m.made r).2.2.wt=m.wt:=by
 by_cases e:r.2.1=0
 ·obtain ⟨h1,h2,o,h3,h4⟩:=d.yes e;refine aEc fun k=>?_;have y:(m.made r).2.2=(m.put r.2.2).black r.1:=by unfold Mk.made;simp only;rw [if_pos e]
  rw [y];show ((r.2.2.ob k).isSome=true/\jO m.col r.1 2 k≠2↔_)/\((m.M.ob k).isSome=true->aDV (r.2.2.ob k)=_)
  by_cases z:k=r.1
  ·rw [z,bY,h1];simp
  rw [bG _ _ z,h2 k z];exact ⟨Iff.rfl,fun _=>rfl⟩
 have y:(m.made r).2.2=m:=by
  unfold Mk.made;simp only;rw [if_neg e,(d.no e).1];rfl
 rw [y]
theorem aLP (M:Hp) (a s v k:Int):aDV ((M.set a s v).2.ob k)=aDV (M.ob k):=by
 rcases xJ M a s v with ⟨_,y⟩|⟨o,j,hs,z,d,_,_,y,_,_⟩
 ·rw [y]
 rw [y]
 by_cases e:k=a
 ·rw [e,aY,z];show (o.slots.set j v).length=_;rw [List.length_set];rfl
 rw [bD _ _ e]
theorem aFx (M:Hp) (a s v k:Int):mP ((M.set a s v).2.ob k)=mP (M.ob k):=by
 rcases xJ M a s v with ⟨_,y⟩|⟨o,j,hs,z,d,_,_,y,_,_⟩
 ·rw [y]
 rw [y]
 by_cases e:k=a
 ·rw [e,aY,z];rfl
 rw [bD _ _ e]
theorem aAx (a s v:Int):(m.put (m.M.set a s v).2).wt=m.wt:=aEc fun k=>by
 show ((((m.M.set a s v).2.ob k).isSome=true/\m.col k≠2↔_)/\(_->aDV ((m.M.set a s v).2.ob k)=_));rw [Hp.lT,aLP];exact ⟨Iff.rfl,fun _=>rfl⟩
theorem aLr (a s v:Int):(m.store a s v).2.wt=m.wt:=by
 unfold Mk.store;simp only;split
 ·rw [wE,wE];exact aAx a s v
 exact aAx a s v
end
def Hp.fw (M:Hp) (l:List Int):Nat:=(l.map (fun x=>1+mP (M.ob x))).sum
theorem aIJ {g:Int->Nat} {n:Nat}:∀ l:List Int,l.Nodup->(∀ x∈l,1<=x/\x<=(n:Int))->(l.map g).sum=jE (fun k=>if ((k:Int)+1)∈l then g ((k:Int)+1) else 0) n
 | [],_,_=>by
  symm;rw [List.map_nil,List.sum_nil,mV];intro i _;rw [if_neg (by simp)]
 | x :: r,hn,hr=>by
  obtain ⟨h1,h2⟩:=List.nodup_cons.1 hn;have hx:=hr x (by simp);obtain ⟨k0,d,e⟩:∃ k:Nat,k<n/\x=(k:Int)+1:=⟨(x - 1).toNat,by omega,by omega⟩;have ih:=aIJ (g:=g) (n:=n) r h2 (fun y hy=>hr y (by simp [hy]));have h3:=mW (f:=fun k:Nat=>if ((k:Int)+1)∈r then g ((k:Int)+1) else 0) (g:=fun k:Nat=>if ((k:Int)+1)∈x :: r then g ((k:Int)+1) else 0) (i:=k0) (k:=n) d (fun j hj hne=>by
   have z:(j:Int)+1≠x:=by omega
   simp only [List.mem_cons,z,false_or])
  rw [<-e,if_neg h1,if_pos (List.mem_cons_self ..)] at h3;rw [List.map_cons,List.sum_cons,ih];omega
theorem aSp {M:Hp} (y:M.OkF) {l:List Int} (hn:l.Nodup) (d:∀ x∈l,(M.ob x).isSome=true):M.fw l<=16*M.P.n:=by
 unfold Hp.fw;rw [aIJ (n:=192) l hn (fun x hx=>y.ok.inR (d x hx))];have e:jE (fun k:Nat=>if ((k:Int)+1)∈l then 1+mP (M.ob ((k:Int)+1)) else 0) 192<=jE (fun j:Nat=>mP (M.ob ((j:Int)+1))+mP (M.ob ((j:Int)+1))) 192:=aCo fun i _=>by
  split
  ·rename_i h;obtain ⟨o,z⟩:=Option.isSome_iff_exists.1 (d _ h);have:=(y.ok.aAu z).1;rw [z];show 1+o.blocks.length<=o.blocks.length+o.blocks.length;omega
  omega
 rw [wG] at e;have:=aKV y;omega
theorem aBN {M M':Hp} {l:List Int} (h:∀ x∈l,mP (M'.ob x)=mP (M.ob x)):M'.fw l=M.fw l:=by
 unfold Hp.fw;congr 1;refine List.map_congr_left fun x hx=>?_;rw [h x hx]
theorem aOY (M:Hp) (x:Int) (r:List Int):M.fw (x :: r)=1+mP (M.ob x)+M.fw r:=by unfold Hp.fw;rw [List.map_cons,List.sum_cons]
theorem qE (M:Hp) (h x:Int):∀ k,mP ((M.bK h k).ob x)=mP (M.ob x)
 | 0=>rfl
 | k+1=>by
  unfold Hp.bK;split
  ·exact (aFx _ _ _ _ _).trans (qE M h x k)
  exact qE M h x k
theorem aAa (M:Hp) (l:List Int) (x:Int):∀ k,mP ((M.cZ l k).ob x)=mP (M.ob x)
 | 0=>rfl
 | k+1=>(qE _ _ _ _).trans (aAa M l x k)
open Classical in
noncomputable def Tb.rem (t:Tb):Nat:=cnt (fun i=>decide (¬ t.past t.ph t.nx i)) t.ents.length
section
variable {t s:Tb} {m:Mk} {n:Nat}
theorem oH {t':Tb} (y:t'.ents=t.ents) (h:∀ i,i<t.ents.length->(t'.past t'.ph t'.nx i↔t.past t.ph t.nx i)):t'.rem=t.rem:=by
 unfold Tb.rem;rw [y];exact fG fun j z=>decide_eq_decide.2 (not_congr (h j z))
theorem aFz (hb:t.Base m) (z:n<=t.ents.length):(t.aAf n).rem=(t.at 4 n).rem:=
 oH (t:=t.at 4 n) rfl fun i y=>kX (t0:=t.at 4 n) (a:=4) (nx:=n) (nx':=nxt t.ents 3 n) (aAE z 3) (fun i y h1 h2 e=>by
  have d:=lV (l:=t.ents) (k:=3) h1 h2;have h4:=iM (hb.kd i y);have h5:(eAt t.ents i).key=4:=e;omega) y
theorem aFA (hb:t.Base m):(t.pU m).rem=(t.at 3 0).rem:=by
 unfold Tb.pU;split
 ·rw [aFz hb (Nat.zero_le _)];refine oH (t:=t.at 3 0) (t':=t.at 4 0) rfl fun i y=>kY (t0:=t.at 3 0) (a:=3) (b:=4) (nx:=0) hb.kd (by omega) (fun i y=>?_) (fun i y _=>?_) y
  ·have:=iM (hb.kd i y);show (eAt t.ents i).key<=_\/_<=(eAt t.ents i).key;omega
  have:=iM (hb.kd i y);show (eAt t.ents i).key≠_;omega
 rfl
theorem aFB (hb:t.Base m) (hn:n<=t.ents.length):(t.set2 m n).rem=(t.at 2 n).rem:=by
 have d:=aAE hn 2;have z:∀ i,i<t.ents.length->n<=i->i<nxt t.ents 2 n->(eAt t.ents i).key≠((2:Nat):Int):=fun i y h1 h2 e=>by
  have:=iM (hb.kd i y);have:=lV (l:=t.ents) (k:=2) h1 h2;omega
 unfold Tb.set2;split
 ·exact oH (t:=t.at 2 n) rfl fun i y=>kX (t0:=t.at 2 n) d z y
 rename_i h1;have h2:=kZ (l:=t.ents) (k:=2) (n:=n);rw [aFA hb];refine oH (t:=t.at 2 n) (t':=t.at 3 0) rfl fun i y=>kY (t0:=t.at 2 n) (a:=2) (b:=3) (nx:=n) hb.kd (by omega) (fun i y=>?_) (fun i y h3=>z i y h3 (Nat.lt_of_lt_of_le (show i<t.ents.length from y) (by omega))) y;have:=iM (hb.kd i y);show (eAt t.ents i).key<=_\/_<=(eAt t.ents i).key;omega
theorem aLY (hb:t.Base m) (hn:n<=t.ents.length):(t.set1 m n).rem=(t.at 1 n).rem:=by
 have d:=aAE hn 1;have z:∀ i,i<t.ents.length->n<=i->i<nxt t.ents 1 n->(eAt t.ents i).key≠((1:Nat):Int):=fun i y h1 h2 e=>by
  have:=iM (hb.kd i y);have:=lV (l:=t.ents) (k:=1) h1 h2;omega
 unfold Tb.set1;split
 ·exact oH (t:=t.at 1 n) rfl fun i y=>kX (t0:=t.at 1 n) d z y
 rename_i h1;have h2:=kZ (l:=t.ents) (k:=1) (n:=n);rw [aFB (t:=t.find m) hb.find (Nat.zero_le _)];refine oH (t:=t.at 1 n) (t':=(t.find m).at 2 0) rfl fun i y=>kY (t0:=t.at 1 n) (a:=1) (b:=2) (nx:=n) hb.kd (by omega) (fun i y=>?_) (fun i y h3=>z i y h3 (Nat.lt_of_lt_of_le (show i<t.ents.length from y) (by omega))) y;have:=iM (hb.kd i y);show (eAt t.ents i).key<=_\/_<=(eAt t.ents i).key;omega
theorem tH (hb:t.Base m) (y:t.nx<=t.ents.length) (h3:t.ph=3->t.nx=0):(t.settle m).rem=t.rem:=by
 obtain ⟨z,q,ph,nx,fd⟩:=t;unfold Tb.settle;split
 ·rename_i e;cases e;exact aLY hb y
 split
 ·rename_i e;cases e;exact aFB hb y
 split
 ·rename_i e;cases e;have d:=h3 rfl;cases d;exact aFA hb
 split
 ·rename_i e;cases e;exact aFz hb y
 rfl
theorem Tb.aPT (t:Tb):t.rem<=t.ents.length:=qN _ _
theorem aLX (hg:t.Good m) (hm:m.Ok) (hp:t.ph≠0) (h0:(t.step m).2.2.1=0) :
  ((t.step m).1=3/\m.list≠[]/\(t.step m).2.1=m.step.1/\(t.step m).2.2.2.2=m.step.2.2/\(t.step m).2.2.2.1.rem=t.rem)\/((t.step m).1≠3/\(t.step m).2.2.2.2.wt=m.wt/\(t.step m).2.2.2.1.rem+1=t.rem):=by
 classical
 have z:=Tb.cO (m:=m) (t:=t) (by omega) hg.p4;have y:=hg.settle hm.hf.ok;have hr:=tH (m:=m) hg.b hg.nl hg.z3;unfold Tb.step at h0 ⊢;rw [if_neg hp] at h0 ⊢;simp only at h0 ⊢;generalize t.settle m=s at *
 by_cases h3:s.ph=3
 ·rw [if_pos h3] at h0 ⊢;left;refine ⟨rfl,z.c h3,rfl,rfl,?_⟩;show (s.settle m.step.2.2).rem=t.rem;rw [tH (y.b.marker (fun k hk=>by rw [Mk.mY];exact hk)) y.nl y.z3,hr]
 rw [if_neg h3] at h0 ⊢
 by_cases hl:s.ents.length<=s.nx
 ·rw [if_pos hl] at h0;exact absurd h0 (by show ¬ ((3:Int)=0);decide)
 rw [if_neg hl];right;have hi:s.nx<s.ents.length:=by omega
 have h2:=y.clear z hi h3 hm;obtain ⟨c1,c2,c3,c4,c5,c6⟩:=Tb.clear_facts y z hi h3 hm.hf.ok;have h6:(eAt s.ents s.nx).key=(s.ph:Int):=by
  have h7:=iM (y.b.kd s.nx hi);have h8:=z.p1;have h9:=y.p4
  by_cases e1:s.ph=1\/s.ph=2
  ·have:=(z.a e1).2;omega
  have e4:s.ph=4:=by omega
  have:=z.d e4 hi;omega
 have h5:(eAt (s.clear m s.nx).1.ents s.nx).key=(eAt s.ents s.nx).key:=by
  have h1:(eAt (s.ents.set s.nx (eAt s.ents s.nx).off) s.nx).key=(eAt s.ents s.nx).key:=by rw [aJz hi];rfl
  unfold Tb.clear;simp only;split
  ·split
   ·exact h1
   rfl
  split
  ·exact h1
  rfl
 refine ⟨fun e=>h3 (by show s.ph=3;exact Int.ofNat_inj.1 e),?_,?_⟩
 ·show (s.clear m s.nx).2.wt=m.wt;rcases c6 with e|⟨x,e⟩
  ·rw [e]
  rw [e,wE]
 show (((s.clear m s.nx).1.at s.ph (s.nx+1)).settle (s.clear m s.nx).2).rem+1=t.rem;rw [tH h2.b h2.nl h2.z3,<-hr];show cnt (fun i=>decide (¬ ((s.clear m s.nx).1.at s.ph (s.nx+1)).past s.ph (s.nx+1) i)) (s.clear m s.nx).1.ents.length+1=s.rem;rw [c2];have hb:(fun i=>decide (¬ s.past s.ph s.nx i)) s.nx=true:=decide_eq_true (by
  show ¬ s.past s.ph s.nx s.nx;unfold Tb.past;omega)
 have:=sJ (u:=fun i=>decide (¬ s.past s.ph s.nx i)) (k:=s.nx) (m:=s.ents.length) hi hb;have h4:s.rem=cnt (fun i=>decide (¬ s.past s.ph s.nx i)) s.ents.length:=by unfold Tb.rem;exact fG fun j _=>decide_eq_decide.2 Iff.rfl
 rw [h4,<-this];congr 1;refine fG fun j hj=>?_
 by_cases e:j=s.nx
 ·rw [e,bM];refine decide_eq_false fun x=>x ?_;show (eAt (s.clear m s.nx).1.ents s.nx).key<_\/((eAt (s.clear m s.nx).1.ents s.nx).key=_/\_);rw [h5,h6];exact .inr ⟨rfl,by omega⟩
 rw [aU _ _ e];refine decide_eq_decide.2 (not_congr ?_);show ((eAt (s.clear m s.nx).1.ents j).key<_\/((eAt (s.clear m s.nx).1.ents j).key=_/\_))↔s.past s.ph s.nx j;rw [c5 j e];unfold Tb.past;omega
end
noncomputable def Co.pot (c:Co):Nat:=
 if c.ph=0 then 0 else if c.ph=1 then c.m.wt+c.t.ents.length+4+112*c.pages
 else if c.ph=2 then c.m.wt+(if c.t.ph=0 then 0 else c.t.rem)+3+112*c.pages
 else if c.ph=3 then c.m.M.fw c.sw+2+96*c.pages else 1+12*(8*c.pages - c.mv)
section
variable {c:Co}
theorem aJs (h:c.ph=1):c.pot=c.m.wt+c.t.ents.length+4+112*c.pages:=by unfold Co.pot;rw [if_neg (by omega),if_pos h]
theorem aGZ (h:c.ph=2):c.pot=c.m.wt+(if c.t.ph=0 then 0 else c.t.rem)+3+112*c.pages:=by unfold Co.pot;rw [if_neg (by omega),if_neg (by omega),if_pos h]
theorem aJr (h:c.ph=3):c.pot=c.m.M.fw c.sw+2+96*c.pages:=by unfold Co.pot;rw [if_neg (by omega),if_neg (by omega),if_neg (by omega),if_pos h]
theorem aJq (h:c.ph=4):c.pot=1+12*(8*c.pages - c.mv):=by unfold Co.pot;rw [if_neg (by omega),if_neg (by omega),if_neg (by omega),if_neg (by omega)]
theorem aOp (h:c.ph=0):c.pot=0:=by unfold Co.pot;rw [if_pos h]
theorem aEx (c:Co) (s:List Int):(c.dV s).2.pot=(c.m.M.cZ s s.length).fw s+2+96*c.pages:=aJr (c:=(c.dV s).2) rfl
theorem aGW (h:c.Okc) (y:c.Pn):c.gZ.2.pot<=2+112*c.pages:=by
 unfold Co.gZ;rw [aEx,aBN (M:=c.m.M) (fun x _=>aAa c.m.M _ x _)];have:=aSp (M:=c.m.M) h.hf (l:=c.m.white) (Mk.wW _) (fun x hx=>((Mk.yM h.hf.ok).1 hx).1);have z:c.m.M.P.n=c.pages:=y;omega
theorem aMe (h:c.Okc) (hn:c.Pn) (hp:c.ph≠0):(c.step.2.2.pot:Int)+c.step.1<=(c.pot:Int):=by
 unfold Co.step;rw [if_neg hp]
 by_cases h1:c.ph=1
 ·rw [if_pos h1,aJs h1]
  by_cases hl:c.m.list=[]
  ·rw [if_pos hl];show (c.iL.2.pot:Int)+1<=_;rw [aGZ (c:=c.iL.2) rfl];show ((c.m.wt+(if (c.t.begin c.m).2.ph=0 then 0 else (c.t.begin c.m).2.rem)+3+112*c.pages:Nat):Int)+1<=_;have d:=(c.t.begin c.m).2.aPT;have h3:(c.t.begin c.m).2.ents.length=c.t.ents.length:=by
    have h9:c.t.begin c.m=(0,(c.t.at 1 0).settle c.m):=by
     unfold Tb.begin;rw [if_neg (by intro h5;rcases h5 with h5|h5;exact h5 (h.t0 (by omega));exact h5 hl)]
    rw [h9];show ((c.t.at 1 0).set1 c.m 0).ents.length=_;unfold Tb.set1;split
    ·rfl
    unfold Tb.set2;split
    ·rfl
    unfold Tb.pU;split<;>rfl
   split<;>omega
  rw [if_neg hl];show (c.mark.2.pot:Int)+(1+c.m.M.len c.m.step.1)<=_;rw [aJs (c:=c.mark.2) h1];show ((c.m.step.2.2.wt+c.t.ents.length+4+112*c.pages:Nat):Int)+_<=_;have:=aEb (h.mo (.inl h1)) hl;rw [aBF];omega
 rw [if_neg h1]
 by_cases d:c.ph=2
 ·rw [if_pos d,aGZ d];have hm:=h.mo (.inr d);obtain ⟨k1,k2,k3⟩:=h.stepT d;show (c.refs.2.pot:Int)+c.refs.1<=_;rw [Co.eY];split
  ·rename_i e0;have z:c.t.ph≠0:=fun e=>by
    have hs:c.t.step c.m=(0,0,13,c.t,c.m):=by unfold Tb.step;rw [if_pos e]
    rw [hs] at e0;cases e0
   rw [if_neg z];show (c.stepT.pot:Int)+(if (c.t.step c.m).1=3 then 1+c.m.M.len (c.t.step c.m).2.1 else 1)<=_;rw [aGZ (c:=c.stepT) d,if_neg (k3 e0)];show (((c.t.step c.m).2.2.2.2.wt+(c.t.step c.m).2.2.2.1.rem+3+112*c.pages:Nat):Int)+_<=_;rcases aLX h.tg hm z e0 with ⟨r1,r2,r3,r4,r5⟩|⟨r1,r2,r3⟩
   ·rw [if_pos r1,r3,r4,r5,aBF];have:=aEb hm r2;omega
   rw [if_neg r1,r2];omega
  rename_i e0;have hz:c.stepT.t.ph=0:=k2 e0;have h0:c.stepT.m=c.m:=by
   by_cases z:c.t.ph=0
   ·have hs:c.t.step c.m=(0,0,13,c.t,c.m):=by unfold Tb.step;rw [if_pos z]
    show (c.t.step c.m).2.2.2.2=_;rw [hs]
   exact (((h.pa d z).step h.tg hm z).2 e0).2.2
  have x1:c.stepT.Pn:=hn.of rfl (by rw [h0]);unfold Co.tail;split
  ·have:=aGW k1 x1;have h4:c.stepT.pages=c.pages:=rfl;show (c.stepT.gZ.2.pot:Int)+1<=_;rw [h4] at this;omega
  rename_i hl;show (c.stepT.mark.2.pot:Int)+(1+c.stepT.m.M.len c.stepT.m.step.1)<=_;rw [aGZ (c:=c.stepT.mark.2) d,if_pos (show c.stepT.mark.2.t.ph=0 from hz)];show ((c.stepT.m.step.2.2.wt+0+3+112*c.pages:Nat):Int)+_<=_;have:=aEb (k1.mo (.inr d)) hl;rw [h0] at this ⊢;rw [aBF];omega
 rw [if_neg d]
 by_cases h3:c.ph=3
 ·rw [if_pos h3,aJr h3];show (c.free.2.pot:Int)+c.free.1<=_;unfold Co.free
  cases e:c.sw with
  | nil=>
   show (({ c with ph:=4,mv:=0 }:Co).pot:Int)+1<=_;rw [aJq (c:={ c with ph:=4,mv:=0 }) rfl];show ((1+12*(8*c.pages - 0):Nat):Int)+1<=_;omega
  | cons x r=>
   show (({ c with sw:=r,m:=c.m.put (c.m.M.release x).2 }:Co).pot:Int)+(1+((c.m.M.blocks x).1.length:Int))<=_;rw [aJr (c:={ c with sw:=r,m:=c.m.put (c.m.M.release x).2 }) h3,aOY,aFc];have h7:=h.sn;rw [e] at h7;have h4:(c.m.M.release x).2.fw r=c.m.M.fw r:=aBN fun y hy=>by rw [lU _ (fun e2=>(List.nodup_cons.1 h7).1 (by rw [<-e2];exact hy))]
   show (((c.m.M.release x).2.fw r+2+96*c.pages:Nat):Int)+_<=_;rw [h4];omega
 rw [if_neg h3];have h8:c.ph=4:=by have:=h.p4;omega
 rw [aJq h8];show (c.move.2.pot:Int)+c.move.1<=_;unfold Co.move;split
 ·rw [aOp (c:={ c with ph:=0,cr:=0 }) rfl];show ((0:Nat):Int)+1<=_;omega
 rename_i hc;have h5:=h.mv;have h6:c.mv≠8*c.pages:=fun e=>hc (.inl e);rw [aJq (c:={ c with m:=c.m.put c.m.M.move.2.2,mv:=c.mv+1 }) h8];show ((1+12*(8*c.pages - (c.mv+1)):Nat):Int)+(4+(bsz (c.m.M.P.class (c.m.M.P.move.1.tdiv 16)).1:Int))<=_;have:=(aDP (wS h.hf.ok.p (c.m.M.P.move.1.tdiv 16))).2;omega
def Co.low (c:Co):Prop:=c.rate=0/\(c.ph≠0->c.cr<0)
theorem wL (h:c.Okc) (e:c.low):(c.give 0).2=c:=by
 by_cases y:c.ph=0
 ·unfold Co.give;rw [if_pos y]
 unfold Co.give;rw [if_neg y];have z:c.more 0=c:=by show ({ c with cr:=c.cr+0 }:Co)=c;rw [Int.add_zero]
 have hs:(Co.pays 0 c).stops:=.inr (by
  have:=(h.cost y).1;have:=e.2 y;show c.cr<c.step.1;omega)
 have d:=Co.rV (c:=c) h (i:=0) (fun j hj=>by omega) hs;show Co.pays (c.more 0).gives (c.more 0)=c;rw [z,<-d];rfl
theorem aBu (e:¬ (c.ph=1\/c.ph=2)) (h:c.Okc) {M:Hp} (hb:∀ k,(c.m.M.ob k).isSome=true->mP (M.ob k)=mP (c.m.M.ob k)):({ c with m:=c.m.put M }:Co).pot=c.pot:=by
 by_cases y:c.ph=0
 ·rw [aOp y,aOp (c:={ c with m:=c.m.put M }) y]
 by_cases z:c.ph=3
 ·rw [aJr z,aJr (c:={ c with m:=c.m.put M }) z];show M.fw c.sw+2+96*c.pages=_;rw [aBN fun x hx=>hb x (h.su x hx)]
 have d:c.ph=4:=by have:=h.p4;omega
 rw [aJq d,aJq (c:={ c with m:=c.m.put M }) d]
theorem oI (y:c.ph=1\/c.ph=2) {m:Mk} (hw:m.wt=c.m.wt):({ c with m:=m }:Co).pot=c.pot:=by
 rcases y with h|h
 ·rw [aJs h,aJs (c:={ c with m:=m }) h];show m.wt+_+_+_=_;rw [hw]
 rw [aGZ h,aGZ (c:={ c with m:=m }) h];show m.wt+_+_+_=_;rw [hw]
theorem aGX (h:c.Okc) (k:Int) (l:List Bool):(c.newObj k l).2.2.pot=c.pot:=by
 unfold Co.newObj;split
 ·rename_i hb;exact oI (bQ.1 hb) (aIz (c.m.M.dW k l))
 rename_i hb;exact aBu (fun e=>hb (bQ.2 e)) h fun x hx=>by rw [(c.m.M.dW k l).old x hx]
theorem aGY (h:c.Okc) (k a n:Int):(c.dJ k a n).2.2.pot=c.pot:=by
 unfold Co.dJ;split
 ·rename_i hb;exact oI (bQ.1 hb) (aIz (c.m.M.fA k a n))
 rename_i hb;exact aBu (fun e=>hb (bQ.2 e)) h fun x hx=>by rw [(c.m.M.fA k a n).old x hx]
theorem aBt (h:c.Okc) (y:c.low) (k:Int) (l:List Bool):(c.aH k l).2.2.pot=c.pot:=by
 unfold Co.aH;split
 ·rfl
 rw [y.1,wL h y];exact aGX h k l
theorem aCG (h:c.Okc) (y:c.low) (k a n:Int):(c.aG k a n).2.2.pot=c.pot:=by
 unfold Co.aG;split
 ·rfl
 rw [y.1,Int.zero_mul,wL h y];exact aGY h k a n
theorem aJo (h:c.Okc) (a s v:Int):(c.store a s v).2.pot=c.pot:=by
 unfold Co.store;split
 ·rfl
 split
 ·rename_i hb;exact oI (bQ.1 hb) (aLr a s v)
 rename_i hb;exact aBu (fun e=>hb (bQ.2 e)) h fun x hx=>aFx _ _ _ _ _
theorem aGV (i:Int):(c.target i).2.2.pot=c.pot:=by
 unfold Co.target;split
 ·rfl
 split
 ·rfl
 show (if c.ph=1 then _ else _:Co).pot=_;split
 ·rename_i y;exact oI (.inl y) (wE _)
 rfl
theorem aBC (h:c.Okc) (y:c.low) (k:Int) (l:List Bool):(c.aH k l).2.2.low/\(c.aH k l).2.2.ph=c.ph:=by
 unfold Co.aH;split
 ·exact ⟨y,rfl⟩
 rw [y.1,wL h y];unfold Co.newObj;split<;>exact ⟨y,rfl⟩
theorem aDa (h:c.Okc) (y:c.low) (k a n:Int):(c.aG k a n).2.2.low/\(c.aG k a n).2.2.ph=c.ph:=by
 unfold Co.aG;split
 ·exact ⟨y,rfl⟩
 rw [y.1,Int.zero_mul,wL h y];unfold Co.dJ;split<;>exact ⟨y,rfl⟩
theorem aJO (y:c.low) (a s v:Int):(c.store a s v).2.low/\(c.store a s v).2.ph=c.ph:=by
 unfold Co.store;split
 ·exact ⟨y,rfl⟩
 split<;>exact ⟨y,rfl⟩
theorem aHm (y:c.low) (i:Int):(c.target i).2.2.low/\(c.target i).2.2.ph=c.ph:=by
 unfold Co.target;split
 ·exact ⟨y,rfl⟩
 split
 ·exact ⟨y,rfl⟩
 show (if c.ph=1 then _ else _:Co).low/\(if c.ph=1 then _ else _:Co).ph=_;split<;>exact ⟨y,rfl⟩
theorem aJl (c:Co):c.step.2.2.rate=c.rate:=by
 unfold Co.step;split
 ·rfl
 split
 ·split<;>rfl
 split
 ·show c.refs.2.rate=_;rw [Co.eY];split
  ·rfl
  have y:c.stepT.rate=c.rate:=rfl;generalize c.stepT=d at*;unfold Co.tail;split
  ·unfold Co.gZ;generalize d.m.white=s;exact y
  exact y
 split
 ·show c.free.2.rate=_;unfold Co.free;split<;>rfl
 show c.move.2.rate=_;unfold Co.move;split<;>rfl
theorem aMq (z:c.low) (d:c.ph≠0):c.step.2.2.low:=by
 refine ⟨(aJl c).trans z.1,fun h=>?_⟩;rcases c.aEj with y|⟨y,_⟩
 ·rw [y];exact z.2 d
 exact absurd y h
theorem aJp (h:c.Okc) (hn:c.Pn) {l:List Int} (hb:(c.begin l).1=0):(c.begin l).2.pot<=c.t.ents.length+4+136*c.pages/\((c.rate=0)->(c.begin l).2.low)/\(c.begin l).2.ph=1/\(c.begin l).2.cr = -1 - (l.length:Int)/\l.length<=192:=by
 unfold Co.begin at hb ⊢;split at hb
 ·cases hb
 rename_i d;rw [if_neg d];split at hb
 ·cases hb
 rename_i y;rw [if_neg y];split at hb
 ·cases hb
 rename_i e;rw [if_neg e];refine ⟨?_,fun hr=>⟨hr,fun _=>?_⟩,rfl,rfl,by omega⟩
 ·show Co.pot _<=_;rw [aJs (by rfl)];show ((Mk.start c.m.M).bC l).wt+c.t.ents.length+4+112*c.pages<=_;have z:((Mk.start c.m.M).bC l).M=c.m.M:=Mk.kN _ _;have:=aRv (m:=(Mk.start c.m.M).bC l) (by rw [z];exact h.hf);rw [z] at this;have y:c.m.M.P.n=c.pages:=hn;omega
 show -1 - (l.length:Int)<0;omega
end
end Go.Proofs.YthflghdaejbdkaaGreat
