/- Lemmas of this claim. -/
import Derived.Test.YthflghdaejbdkaaGreatXaTbModel
namespace Go.Proofs.YthflghdaejbdkaaGreat
set_option linter.unusedVariables false
set_option maxRecDepth 100000
def Tb.zeros (t:Tb):Nat:=cnt (fun i=>decide ((eAt t.ents i).tgt=0)) t.ents.length
structure Tb.Base (t:Tb) (m:Mk):Prop where
 le:t.ents.length<=20
 kd:∀ i,i<t.ents.length->1<=(eAt t.ents i).kind/\(eAt t.ents i).kind<=3
 us:∀ i,i<t.ents.length->(eAt t.ents i).tgt≠0->(m.M.ob (eAt t.ents i).tgt).isSome=true
 ql:t.q.length<=t.zeros
structure Tb.Good (t:Tb) (m:Mk):Prop where
 b:t.Base m
 p4:t.ph<=4
 nl:t.nx<=t.ents.length
 z3:t.ph=3->t.nx=0
 fd:t.ph=2->∀ i,t.nx<=i->i<t.ents.length->t.fd i=true->(eAt t.ents i).tgt≠0
structure Tb.Stl (s:Tb) (m:Mk):Prop where
 p1:1<=s.ph
 a:s.ph=1\/s.ph=2->s.nx<s.ents.length/\(eAt s.ents s.nx).kind=(s.ph:Int)
 c:s.ph=3->m.list≠[]
 d:s.ph=4->s.nx<s.ents.length->(eAt s.ents s.nx).kind=3
section
variable {t s:Tb} {m m':Mk} {l:List En} {n i:Nat} {k:Int}
theorem qQ (h:n<l.length) (y:(eAt l n).kind=k):nxt l k n=n:=
 kT h (by simp [y]) (fun j z=>by simp;omega)
theorem aEd (h:l.length<=n):nxt l k n=l.length:=fQ (fun j y=>by simp;omega)
theorem aLB (z:(eAt l n).kind≠k):nxt l k n=nxt l k (n+1):=by
 unfold nxt;refine rP fun j d=>?_
 by_cases e:j=n
 ·rw [e];simp [z]
 by_cases y:n<=j
 ·have:n+1<=j:=by omega
  simp [y,this]
 have:¬ n+1<=j:=by omega
 simp [y,this]
theorem xQ:nxt l k (nxt l k n)=nxt l k n:=by
 by_cases h:nxt l k n<l.length
 ·exact qQ h (mY h).2
 have y:=mX (l:=l) (k:=k) (n:=n);rw [aEd (by omega)];omega
theorem Tb.Base.at (h:t.Base m) (a n:Nat):(t.at a n).Base m:=⟨h.le,h.kd,h.us,h.ql⟩
theorem Tb.Base.find (h:t.Base m):(t.find m).Base m:=⟨h.le,h.kd,h.us,h.ql⟩
theorem Tb.aKR:t.zeros<=t.ents.length:=uY _ _
theorem Tb.Base.q20 (h:t.Base m):t.q.length<=20:=by have:=h.ql;have:=h.le;have:=Tb.aKR (t:=t);omega
theorem Tb.Base.tg (h:t.Base m) (z:m.M.Ok) {i:Nat} (y:i<t.ents.length):0<=(eAt t.ents i).tgt/\(eAt t.ents i).tgt<=192:=by
 by_cases e:(eAt t.ents i).tgt=0
 ·rw [e];omega
 have:=z.inR (h.us i y e);omega
theorem Tb.Base.marker (h:t.Base m) (y:∀ k,(m.M.ob k).isSome=true->(m'.M.ob k).isSome=true):t.Base m':=⟨h.le,h.kd,fun i hi e=>y _ (h.us i hi e),h.ql⟩
theorem Tb.Good.marker (h:t.Good m) (y:∀ k,(m.M.ob k).isSome=true->(m'.M.ob k).isSome=true):t.Good m':=⟨h.b.marker y,h.p4,h.nl,h.z3,h.fd⟩
theorem Tb.aDb (h:t.Base m) (n:Nat):(t.zY n).Good m:=⟨h.at _ _,Nat.le_refl 4,mX,fun e=>by simp [Tb.zY,Tb.at] at e,fun e=>by simp [Tb.zY,Tb.at] at e⟩
theorem Tb.aEY (n:Nat):(t.zY n).Stl m:=⟨by show 1<=4;omega,fun e=>by simp [Tb.zY,Tb.at] at e,fun e=>by simp [Tb.zY,Tb.at] at e,fun _ h=>(mY h).2⟩
theorem Tb.aDc (h:t.Base m):(t.sF m).Good m:=by
 unfold Tb.sF;split
 ·exact Tb.aDb h 0
 exact ⟨h.at _ _,by show 3<=4;omega,Nat.zero_le _,fun _=>rfl,fun e=>by simp [Tb.at] at e⟩
theorem Tb.aEZ:(t.sF m).Stl m:=by
 unfold Tb.sF;split
 ·exact Tb.aEY 0
 rename_i h;exact ⟨by show 1<=3;omega,fun e=>by simp [Tb.at] at e,fun _=>h,fun e=>by simp [Tb.at] at e⟩
theorem Tb.aDd (h:t.Base m) (z:∀ i,n<=i->i<t.ents.length->t.fd i=true->(eAt t.ents i).tgt≠0):(t.set2 m n).Good m:=by
 unfold Tb.set2;split
 ·rename_i y;exact ⟨h.at _ _,by show 2<=4;omega,mX,fun e=>by simp [Tb.at] at e,fun _ i hi hl hd=>z i (Nat.le_trans (mY y).1 hi) hl hd⟩
 exact Tb.aDc h
theorem Tb.aFa:(t.set2 m n).Stl m:=by
 unfold Tb.set2;split
 ·rename_i y;exact ⟨by show 1<=2;omega,fun _=>⟨y,(mY y).2⟩,fun e=>by simp [Tb.at] at e,fun e=>by simp [Tb.at] at e⟩
 exact Tb.aEZ
theorem aNf (y:m.M.Ok) {x:Int} (h:m.isW x=true):x≠0/\(m.M.ob x).isSome=true:=by
 unfold Mk.isW at h;simp only [Bool.and_eq_true,decide_eq_true_eq] at h;have:=y.inR h.1;exact ⟨by omega,h.1⟩
theorem Tb.aJB (z:m.M.Ok) (h:t.Base m):(t.set1 m n).Good m:=by
 unfold Tb.set1;split
 ·exact ⟨h.at _ _,by show 1<=4;omega,mX,fun e=>by simp [Tb.at] at e,fun e=>by simp [Tb.at] at e⟩
 refine Tb.aDd h.find fun i _ d hd=>?_;have y:(decide ((eAt t.ents i).kind=2) && m.isW (eAt t.ents i).tgt)=true:=hd;rw [Bool.and_eq_true] at y;exact (aNf z y.2).1
theorem Tb.aLg:(t.set1 m n).Stl m:=by
 unfold Tb.set1;split
 ·rename_i y;exact ⟨Nat.le_refl 1,fun _=>⟨y,(mY y).2⟩,fun e=>by simp [Tb.at] at e,fun e=>by simp [Tb.at] at e⟩
 exact Tb.aFa
theorem Tb.Good.settle (y:m.M.Ok) (h:t.Good m):(t.settle m).Good m:=by
 unfold Tb.settle;split
 ·exact Tb.aJB y h.b
 split
 ·rename_i e;exact Tb.aDd h.b (h.fd e)
 split
 ·exact Tb.aDc h.b
 split
 ·exact Tb.aDb h.b _
 exact h
theorem Tb.dA (y:1<=t.ph) (z:t.ph<=4):(t.settle m).Stl m:=by
 unfold Tb.settle;split
 ·exact Tb.aLg
 split
 ·exact Tb.aFa
 split
 ·exact Tb.aEZ
 split
 ·exact Tb.aEY _
 omega
theorem Tb.aIA (n:Nat):(t.zY n).ents=t.ents/\(t.zY n).q=t.q:=⟨rfl,rfl⟩
theorem Tb.aCg:(t.sF m).ents=t.ents/\(t.sF m).q=t.q:=by unfold Tb.sF;split<;>exact ⟨rfl,rfl⟩
theorem Tb.xB:(t.set2 m n).ents=t.ents/\(t.set2 m n).q=t.q:=by
 unfold Tb.set2;split
 ·exact ⟨rfl,rfl⟩
 exact Tb.aCg
theorem Tb.aIB:(t.set1 m n).ents=t.ents/\(t.set1 m n).q=t.q:=by
 unfold Tb.set1;split
 ·exact ⟨rfl,rfl⟩
 exact ⟨Tb.xB.1,Tb.xB.2⟩
theorem Tb.gV:(t.settle m).ents=t.ents/\(t.settle m).q=t.q:=by
 unfold Tb.settle;split
 ·exact Tb.aIB
 split
 ·exact Tb.xB
 split
 ·exact Tb.aCg
 split
 ·exact Tb.aIA _
 exact ⟨rfl,rfl⟩
theorem aHV (d:i<t.ents.length) {q:List Int} {ph nx:Nat} {z:Nat->Bool}:(⟨t.ents.set i (eAt t.ents i).off,q,ph,nx,z⟩:Tb).zeros=t.zeros+if (eAt t.ents i).tgt=0 then 0 else 1:=by
 have h1:(⟨t.ents.set i (eAt t.ents i).off,q,ph,nx,z⟩:Tb).zeros=cnt (up (fun j=>decide ((eAt t.ents j).tgt=0)) i true) t.ents.length:=by
  unfold Tb.zeros;show cnt _ (t.ents.set i _).length=_;rw [List.length_set];refine jI fun j hj=>?_;show decide ((eAt (t.ents.set i _) j).tgt=0)=_;rw [jX d]
  by_cases e:j=i
  ·rw [if_pos e,e,bM];rfl
  rw [if_neg e,aW _ _ e]
 rw [h1]
 by_cases e:(eAt t.ents i).tgt=0
 ·rw [if_pos e];refine jI fun j hj=>?_
  by_cases y:j=i
  ·rw [y,bM,e];rfl
  rw [aW _ _ y]
 rw [if_neg e];exact aBD d (by simp [e])
theorem Tb.Base.off (h:t.Base m) (d:i<t.ents.length) {q:List Int} {ph nx:Nat} {fd:Nat->Bool} (hq:q.length<=t.q.length+if (eAt t.ents i).tgt=0 then 0 else 1):(⟨t.ents.set i (eAt t.ents i).off,q,ph,nx,fd⟩:Tb).Base m:=by
 refine ⟨by show (t.ents.set i _).length<=20;rw [List.length_set];exact h.le,fun j hj=>?_,fun j hj y=>?_,?_⟩
 ·have z:j<t.ents.length:=by have:j<(t.ents.set i (eAt t.ents i).off).length:=hj;rw [List.length_set] at this;exact this
  show 1<=(eAt (t.ents.set i _) j).kind/\(eAt (t.ents.set i _) j).kind<=3;rw [jX d];split
  ·exact h.kd i d
  exact h.kd j z
 ·have z:j<t.ents.length:=by have:j<(t.ents.set i (eAt t.ents i).off).length:=hj;rw [List.length_set] at this;exact this
  replace y:(eAt (t.ents.set i (eAt t.ents i).off) j).tgt≠0:=y;show (m.M.ob (eAt (t.ents.set i _) j).tgt).isSome=true;rw [jX d] at y ⊢;split
  ·rename_i e;rw [if_pos e] at y;exact absurd rfl y
  rename_i e;rw [if_neg e] at y;exact h.us j z y
 rw [aHV d];have:=h.ql;show q.length<=_;omega
theorem Mk.aGc {x:Int}:(m.bH x).left=m.left:=by
 unfold Mk.left;rw [Mk.mG];refine jI fun j d=>?_;rcases Mk.wZ (m:=m) (x:=x) ((j:Int)+1) with h|⟨_,_,y,z⟩
 ·rw [h]
 rw [y,z];rfl
theorem Tb.clear_facts (h:s.Good m) (hs:s.Stl m) (y:s.nx<s.ents.length) (d:s.ph≠3) (hk:m.M.Ok):(s.clear m s.nx).1.Base m/\(s.clear m s.nx).1.ents.length=s.ents.length/\(s.clear m s.nx).1.fd=s.fd/\(s.clear m s.nx).1.ph=s.ph/\(∀ j,j≠s.nx->eAt (s.clear m s.nx).1.ents j=eAt s.ents j)/\((s.clear m s.nx).2=m\/∃ x,(s.clear m s.nx).2=m.bH x):=by
 unfold Tb.clear;simp only;split
 ·split
  ·rename_i e hd;refine ⟨h.b.off y (by rw [List.length_append,if_neg (h.fd e _ (Nat.le_refl _) y hd)];exact Nat.le_refl _),by show (s.ents.set _ _).length=_;rw [List.length_set],rfl,rfl,fun j z=>?_,.inr ⟨_,rfl⟩⟩;show eAt (s.ents.set _ _) j=_;rw [jX y,if_neg z]
  exact ⟨h.b,rfl,rfl,rfl,fun _ _=>rfl,.inl rfl⟩
 split
 ·refine ⟨h.b.off y (by omega),by show (s.ents.set _ _).length=_;rw [List.length_set],rfl,rfl,fun j z=>?_,.inl rfl⟩;show eAt (s.ents.set _ _) j=_;rw [jX y,if_neg z]
 exact ⟨h.b,rfl,rfl,rfl,fun _ _=>rfl,.inl rfl⟩
theorem aFL (y:m.Ok) (z:m'=m\/∃ x,m'=m.bH x):m'.Ok/\m'.M=m.M/\m'.left=m.left:=by
 rcases z with rfl|⟨x,rfl⟩
 ·exact ⟨y,rfl,rfl⟩
 exact ⟨y.bH x,Mk.mG,Mk.aGc⟩
theorem Tb.Good.clear (h:s.Good m) (hs:s.Stl m) (hi:s.nx<s.ents.length) (h3:s.ph≠3) (hm:m.Ok):((s.clear m s.nx).1.at s.ph (s.nx+1)).Good (s.clear m s.nx).2:=by
 obtain ⟨h1,h2,h4,h5,h6,h7⟩:=Tb.clear_facts h hs hi h3 hm.hf.ok;have h8:=aFL hm h7;clear h7;generalize s.clear m s.nx=c at*;obtain ⟨z,c2⟩:=c;replace h2:z.ents.length=s.ents.length:=h2;refine ⟨(Tb.Base.at h1 _ _).marker (fun k hk=>by rw [h8.2.1];exact hk),h.p4,by show s.nx+1<=z.ents.length;omega,fun e=>absurd e h3,fun e i d y hd=>?_⟩;replace hd:z.fd i=true:=hd;replace y:i<z.ents.length:=y;replace d:s.nx+1<=i:=d;replace h4:z.fd=s.fd:=h4;rw [h4] at hd;rw [h2] at y;show (eAt z.ents i).tgt≠0;rw [h6 i (by omega)];exact h.fd e i (by omega) y hd
def Tb.mu (t:Tb) (m:Mk):Nat:=(4 - t.ph)*300+m.left+(t.ents.length - t.nx)
theorem aIZ (t:Tb) (m:Mk) (a n:Nat):(t.at a n).mu m=(4 - a)*300+m.left+(t.ents.length - n):=rfl
theorem aIW (y:n<=t.ents.length):(t.zY n).mu m<=m.left+(t.ents.length - n):=by
 show (t.at 4 _).mu m<=_;rw [aIZ]
 by_cases h:nxt t.ents 3 n<t.ents.length
 ·have:=(mY h).1;omega
 have:=mX (l:=t.ents) (k:=3) (n:=n);omega
theorem aIX (y:t.ents.length<=20):(t.sF m).mu m<=300+m.left+t.ents.length:=by
 unfold Tb.sF;split
 ·have:=aIW (t:=t) (m:=m) (Nat.zero_le _);omega
 rw [aIZ];omega
theorem aIY (y:t.ents.length<=20) (z:n<=t.ents.length):(t.set2 m n).mu m<=600+m.left+(t.ents.length - n):=by
 unfold Tb.set2;split
 ·rename_i h;rw [aIZ];have:=(mY h).1;omega
 have:=aIX (t:=t) (m:=m) y;omega
theorem aNZ (y:t.ents.length<=20) (d:n<=t.ents.length):(t.set1 m n).mu m<=900+m.left+(t.ents.length - n):=by
 unfold Tb.set1;split
 ·rename_i h;rw [aIZ];have:=(mY h).1;omega
 have:=aIY (t:=t.find m) (m:=m) (n:=0) y (Nat.zero_le _);have z:(t.find m).ents.length=t.ents.length:=rfl;omega
theorem xY (h:t.Good m) (h1:1<=t.ph):(t.settle m).mu m<=t.mu m:=by
 have h4:=h.p4;have y:=h.b.le;have z:=h.nl;unfold Tb.settle;split
 ·rename_i e;have:=aNZ (m:=m) y z;unfold Tb.mu at*;rw [e];omega
 split
 ·rename_i e;have:=aIY (m:=m) y z;unfold Tb.mu at*;rw [e];omega
 split
 ·rename_i e;have:=aIX (m:=m) y;have d:=h.z3 e;unfold Tb.mu at*;rw [e,d];omega
 split
 ·rename_i e;have:=aIW (m:=m) z;unfold Tb.mu at*;rw [e];omega
 omega
theorem Tb.Good.step (h:t.Good m) (z:m.Ok):(t.step m).2.2.2.1.Good (t.step m).2.2.2.2/\(t.step m).2.2.2.2.Ok/\(t.step m).2.2.2.2.M=m.M/\(t.ph≠0->((t.step m).2.2.1=0/\1<=(t.step m).2.2.2.1.ph/\(t.step m).2.2.2.1.mu (t.step m).2.2.2.2<t.mu m)\/((t.step m).2.2.1=3/\(t.step m).2.2.2.1.ph=0)):=by
 by_cases h0:t.ph=0
 ·unfold Tb.step;rw [if_pos h0];exact ⟨h,z,rfl,fun e=>absurd h0 e⟩
 have h1:1<=t.ph:=by omega
 have hk:=z.hf.ok;have hs:=h.settle hk;have y:=Tb.dA (m:=m) h1 h.p4;have h2:=xY h h1;unfold Tb.step;rw [if_neg h0];simp only;generalize t.settle m=s at*;split
 ·rename_i e;have hM:=Mk.oP (m:=m);have d:s.Good m.step.2.2:=hs.marker (fun k hk=>by rw [hM];exact hk);refine ⟨d.settle (by rw [hM];exact hk),z.step,hM,fun _=>.inl ⟨rfl,(Tb.dA (by omega) hs.p4).p1,?_⟩⟩;have h5:=xY d (by omega);have h6:=Mk.left_step z (y.c e);have h7:s.mu m.step.2.2+1=s.mu m:=by unfold Tb.mu;omega
  show (s.settle m.step.2.2).mu m.step.2.2<t.mu m;omega
 split
 ·refine ⟨⟨hs.b.at _ _,Nat.zero_le _,Nat.zero_le _,fun _=>rfl,fun e=>by simp [Tb.at] at e⟩,z,rfl,fun _=>.inr ⟨rfl,rfl⟩⟩
 rename_i e3 el;have hi:s.nx<s.ents.length:=by omega
 obtain ⟨c1,c2,c3,c4,c5,c6⟩:=Tb.clear_facts hs y hi e3 hk;obtain ⟨d1,d2,d3⟩:=aFL z c6;have d:=hs.clear y hi e3 z;have hp:1<=((s.clear m s.nx).1.at s.ph (s.nx+1)).ph:=y.p1;refine ⟨d.settle (by rw [d2];exact hk),d1,d2,fun _=>.inl ⟨rfl,(Tb.dA hp d.p4).p1,?_⟩⟩;have h5:=xY d hp;have h6:((s.clear m s.nx).1.at s.ph (s.nx+1)).mu (s.clear m s.nx).2=(4 - s.ph)*300+m.left+(s.ents.length - (s.nx+1)):=by
  rw [aIZ,d3,c2]
 have h7:s.mu m=(4 - s.ph)*300+m.left+(s.ents.length - s.nx):=rfl;show (((s.clear m s.nx).1.at s.ph (s.nx+1)).settle (s.clear m s.nx).2).mu (s.clear m s.nx).2<t.mu m;omega
theorem Tb.Good.new:Tb.new.Good m:=⟨⟨by show 0<=20;omega,fun i y=>absurd y (Nat.not_lt_zero _),fun i y=>absurd y (Nat.not_lt_zero _),Nat.le_refl 0⟩,Nat.zero_le _,Nat.le_refl _,fun e=>rfl,fun e=>by simp [Tb.new] at e⟩
theorem Tb.Good.take (h:t.Good m):t.take.2.2.Good m:=by
 unfold Tb.take
 cases e:t.q with
 | nil=>exact h
 | cons x r=>exact ⟨⟨h.b.le,h.b.kd,h.b.us,by have:=h.b.ql;rw [e] at this;simp at this;show r.length<=t.zeros;omega⟩,h.p4,h.nl,h.z3,h.fd⟩
theorem Tb.Good.begin (h:t.Good m) (y:m.M.Ok):(t.begin m).2.Good m:=by
 unfold Tb.begin;split
 ·exact h
 exact Tb.Good.settle y ⟨h.b.at _ _,by show 1<=4;omega,Nat.zero_le _,fun e=>by simp [Tb.at] at e,fun e=>by simp [Tb.at] at e⟩
theorem aBA (l:List En) (e:En) {i:Nat} (y:i<l.length+1):eAt (l ++ [e]) i=if i=l.length then e else eAt l i:=by
 unfold eAt
 by_cases h:i=l.length
 ·rw [if_pos h,h];simp
 rw [if_neg h,List.getElem?_append_left (by omega)]
theorem Tb.Good.add (h:t.Good m) (kd x g:Int):(t.add m kd x g).2.2.Good m:=by
 unfold Tb.add;split
 ·exact h
 split
 ·exact h
 split
 ·exact h
 split
 ·exact h
 rename_i h1 h2 h3 h4;have d:(t.ents ++ [⟨kd,x,g⟩]:List En).length=t.ents.length+1:=by simp
 have h0:t.ph=0:=Classical.not_not.1 h2;refine ⟨⟨by show (t.ents ++ _).length<=20;rw [d];omega,fun i hi=>?_,fun i hi z=>?_,?_⟩,h.p4,by show t.nx<=(t.ents ++ _).length;rw [d];have:=h.nl;omega,h.z3,fun e=>?_⟩
 ·have y:i<t.ents.length+1:=by rw [<-d];exact hi
  show 1<=(eAt (t.ents ++ _) i).kind/\(eAt (t.ents ++ _) i).kind<=3;rw [aBA _ _ y];split
  ·show 1<=kd/\kd<=3;omega
  exact h.b.kd i (by omega)
 ·have y:i<t.ents.length+1:=by rw [<-d];exact hi
  replace z:(eAt (t.ents ++ [⟨kd,x,g⟩]) i).tgt≠0:=z;show (m.M.ob (eAt (t.ents ++ _) i).tgt).isSome=true;rw [aBA _ _ y] at z ⊢;split
  ·show (m.M.ob x).isSome=true
   cases e:(m.M.ob x).isSome
   ·exact absurd e h3
   rfl
  rename_i e;rw [if_neg e] at z;exact h.b.us i (by omega) z
 ·have hq:=h.b.ql;show t.q.length<=cnt (fun i=>decide ((eAt (t.ents ++ [⟨kd,x,g⟩]) i).tgt=0)) (t.ents ++ [(⟨kd,x,g⟩:En)]).length;rw [d];show _<=cnt _ t.ents.length+_;have hc:cnt (fun i=>decide ((eAt (t.ents ++ [⟨kd,x,g⟩]) i).tgt=0)) t.ents.length=t.zeros:=jI fun j hj=>by
   rw [aBA t.ents ⟨kd,x,g⟩ (show j<t.ents.length+1 by omega),if_neg (by omega)]
  omega
 exact absurd (show t.ph=2 from e) (by omega)
end
end Go.Proofs.YthflghdaejbdkaaGreat
