/- Lemmas of this claim. -/
import Derived.Test.YthflghdaejbdkaaGreatXcTbGood
namespace Go.Proofs.YthflghdaejbdkaaGreat
set_option linter.unusedVariables false
set_option maxRecDepth 100000
def En.key (e:En):Int:=if e.kind=3 then 4 else e.kind
def Tb.past (t0:Tb) (y nx:Nat) (i:Nat):Prop:=(eAt t0.ents i).key<(y:Int)\/((eAt t0.ents i).key=(y:Int)/\i<nx)
section
variable {t0 t:Tb} {m0 m:Mk} {n i k:Nat}
theorem iM {e:En} (h:1<=e.kind/\e.kind<=3):(e.key=1/\e.kind=1)\/(e.key=2/\e.kind=2)\/(e.key=4/\e.kind=3):=by
 unfold En.key
 by_cases y:e.kind=3
 ·rw [if_pos y];exact .inr (.inr ⟨rfl,y⟩)
 rw [if_neg y];omega
theorem kY {a b:Nat} (hk:∀ i,i<t0.ents.length->1<=(eAt t0.ents i).kind/\(eAt t0.ents i).kind<=3) (hb:a<b) (y:∀ i,i<t0.ents.length->(eAt t0.ents i).key<=(a:Int)\/(b:Int)<=(eAt t0.ents i).key) {nx:Nat} (hn:∀ i,i<t0.ents.length->nx<=i->(eAt t0.ents i).key≠(a:Int)) (z:i<t0.ents.length):t0.past b 0 i↔t0.past a nx i:=by
 unfold Tb.past;have h1:=y i z;have d:=hn i z;constructor
 ·rintro (h|h)
  ·by_cases e:(eAt t0.ents i).key=(a:Int)
   ·exact .inr ⟨e,by have:=fun x=>d x e;omega⟩
   exact .inl (by omega)
  omega
 rintro (h|h)
 ·exact .inl (by omega)
 exact .inl (by omega)
theorem kX {a nx nx':Nat} (e:nx<=nx') (d:∀ i,i<t0.ents.length->nx<=i->i<nx'->(eAt t0.ents i).key≠(a:Int)) (z:i<t0.ents.length):t0.past a nx' i↔t0.past a nx i:=by
 unfold Tb.past;have y:=d i z;constructor
 ·rintro (h|h)
  ·exact .inl h
  exact .inr ⟨h.1,by have:=fun x=>y x h.2 h.1;omega⟩
 rintro (h|h)
 ·exact .inl h
 exact .inr ⟨h.1,by omega⟩
theorem aAE (y:n<=t.ents.length) (a:Int):n<=nxt t.ents a n:=by
 by_cases h:nxt t.ents a n<t.ents.length
 ·exact (nM h).1
 have:=kZ (l:=t.ents) (k:=a) (n:=n);omega
theorem aJy {l:List En} {x:Nat} (hx:x<l.length):∀ j,j≠x->eAt (l.set x (eAt l x).off) j=eAt l j:=fun j hj=>by rw [jY hx,if_neg hj]
theorem aJz {l:List En} {x:Nat} (hx:x<l.length):eAt (l.set x (eAt l x).off) x=(eAt l x).off:=by rw [jY hx,if_pos rfl]
end
def En.fine (e:En) (m:Mk):Prop:=e.tgt=0\/m.col e.tgt≠0
structure Pst (t:Tb) (m:Mk):Prop where
 p:∀ i,i<t.ents.length->t.past t.ph t.nx i->(eAt t.ents i).fine m
 f:t.ph=2->∀ i,i<t.ents.length->(eAt t.ents i).kind=2->t.fd i=false->(eAt t.ents i).fine m
def Tb.All (t:Tb) (m:Mk):Prop:=∀ i,i<t.ents.length->(eAt t.ents i).fine m
section
variable {t t' s:Tb} {m m':Mk} {n i k:Nat}
theorem En.fine.mono {e:En} (h:e.fine m) (y:∀ x,m.col x≠0->m'.col x≠0):e.fine m':=h.imp id (y _)
theorem Pst.mono (h:Pst t m) (y:∀ x,m.col x≠0->m'.col x≠0):Pst t m':=⟨fun i hi hp=>(h.p i hi hp).mono y,fun e i hi hk hf=>(h.f e i hi hk hf).mono y⟩
theorem Tb.All.mono (h:t.All m) (y:∀ x,m.col x≠0->m'.col x≠0):t.All m':=fun i hi=>(h i hi).mono y
theorem aKI (hb:t.Base m) (d:i<t.ents.length) (hw:m.isW (eAt t.ents i).tgt=false):(eAt t.ents i).fine m:=by
 by_cases y:(eAt t.ents i).tgt=0
 ·exact .inl y
 refine .inr fun z=>?_;unfold Mk.isW at hw;rw [hb.us i d y,z] at hw
 cases hw
theorem Pst.move (h:Pst t m) {t':Tb} (z:t'.ents=t.ents) (hp:∀ i,i<t.ents.length->(t.past t'.ph t'.nx i↔t.past t.ph t.nx i)) (hf:t'.ph=2->∀ i,i<t.ents.length->(eAt t.ents i).kind=2->t'.fd i=false->(eAt t.ents i).fine m):Pst t' m:=by
 refine ⟨fun i y d=>?_,fun e i y hk hfd=>?_⟩
 ·have hq:t.past t'.ph t'.nx i:=by unfold Tb.past at d ⊢;rw [z] at d;exact d
  rw [z] at y ⊢;exact h.p i y ((hp i y).1 hq)
 rw [z] at y hk ⊢;exact hf e i y hk hfd
theorem Pst.aAf (hb:t.Base m) (h:Pst (t.at 4 n) m) (z:n<=t.ents.length):Pst (t.aAf n) m:=by
 refine h.move rfl (fun i y=>kX (t0:=t.at 4 n) (a:=4) (nx:=n) (nx':=nxt t.ents 3 n) (aAE z 3) (fun i y h1 h2 e=>?_) y) (fun e=>by simp [Tb.aAf,Tb.at] at e);have d:=lV (l:=t.ents) (k:=3) h1 h2;have h4:=iM (hb.kd i y);have h5:(eAt t.ents i).key=4:=e;omega
theorem Pst.pU (hb:t.Base m) (h:Pst (t.at 3 0) m):Pst (t.pU m) m:=by
 unfold Tb.pU;split
 ·refine Pst.aAf hb (h.move (t':=t.at 4 0) rfl (fun i y=>kY (t0:=t.at 3 0) (a:=3) (b:=4) (nx:=0) hb.kd (by omega) (fun i y=>?_) (fun i y _=>?_) y) (fun e=>by simp [Tb.at] at e)) (Nat.zero_le _)
  ·have:=iM (hb.kd i y);show (eAt t.ents i).key<=_\/_<=(eAt t.ents i).key;omega
  have:=iM (hb.kd i y);show (eAt t.ents i).key≠_;omega
 exact h
theorem Pst.set2 (hb:t.Base m) (h:Pst (t.at 2 n) m) (hn:n<=t.ents.length):Pst (t.set2 m n) m:=by
 have d:=aAE hn 2;have z:∀ i,i<t.ents.length->n<=i->i<nxt t.ents 2 n->(eAt t.ents i).key≠((2:Nat):Int):=fun i y h1 h2 e=>by
  have:=iM (hb.kd i y);have:=lV (l:=t.ents) (k:=2) h1 h2;omega
 unfold Tb.set2;split
 ·exact h.move rfl (fun i y=>kX (t0:=t.at 2 n) d z y) (fun _=>h.f rfl)
 rename_i h1;have h2:=kZ (l:=t.ents) (k:=2) (n:=n);refine Pst.pU hb (h.move (t':=t.at 3 0) rfl (fun i y=>kY (t0:=t.at 2 n) (a:=2) (b:=3) (nx:=n) hb.kd (by omega) (fun i y=>?_) (fun i y h3=>z i y h3 (Nat.lt_of_lt_of_le (show i<t.ents.length from y) (by omega))) y) (fun e=>by simp [Tb.at] at e));have:=iM (hb.kd i y);show (eAt t.ents i).key<=_\/_<=(eAt t.ents i).key;omega
theorem Pst.set1 (hb:t.Base m) (h:Pst (t.at 1 n) m) (hn:n<=t.ents.length):Pst (t.set1 m n) m:=by
 have h0:=aAE hn 1;have d:∀ i,i<t.ents.length->n<=i->i<nxt t.ents 1 n->(eAt t.ents i).key≠((1:Nat):Int):=fun i y h1 h2 e=>by
  have:=iM (hb.kd i y);have:=lV (l:=t.ents) (k:=1) h1 h2;omega
 unfold Tb.set1;split
 ·exact h.move rfl (fun i y=>kX (t0:=t.at 1 n) h0 d y) (fun e=>by simp [Tb.at] at e)
 rename_i h1;have h2:=kZ (l:=t.ents) (k:=1) (n:=n);refine Pst.set2 (t:=t.find m) hb.find (h.move (t':=(t.find m).at 2 0) rfl (fun i y=>kY (t0:=t.at 1 n) (a:=1) (b:=2) (nx:=n) hb.kd (by omega) (fun i y=>?_) (fun i y h3=>d i y h3 (Nat.lt_of_lt_of_le (show i<t.ents.length from y) (by omega))) y) (fun _ i y hk hf=>?_)) (Nat.zero_le _)
 ·have:=iM (hb.kd i y);show (eAt t.ents i).key<=_\/_<=(eAt t.ents i).key;omega
 have h4:(eAt t.ents i).kind=2:=hk;have z:(decide ((eAt t.ents i).kind=2) && m.isW (eAt t.ents i).tgt)=false:=hf;rw [h4] at z;exact aKI (t:=t) hb y z
theorem Pst.settle (hb:t.Base m) (h:Pst t m) (y:t.nx<=t.ents.length) (h3:t.ph=3->t.nx=0):Pst (t.settle m) m:=by
 obtain ⟨z,q,ph,nx,fd⟩:=t;unfold Tb.settle;split
 ·rename_i e;cases e;exact Pst.set1 hb h y
 split
 ·rename_i e;cases e;exact Pst.set2 hb h y
 split
 ·rename_i e;cases e;have d:=h3 rfl;cases d;exact Pst.pU hb h
 split
 ·rename_i e;cases e;exact Pst.aAf hb h y
 exact h
theorem Pst.start (hb:t.Base m):Pst (t.at 1 0) m:=by
 refine ⟨fun i hi y=>?_,fun e=>by simp [Tb.at] at e⟩;have h1:=iM (hb.kd i hi);unfold Tb.past at y;have z:(t.at 1 0).ph=1:=rfl;have d:(t.at 1 0).nx=0:=rfl;rw [z,d] at y;have h4:(eAt (t.at 1 0).ents i).key=(eAt t.ents i).key:=rfl;omega
theorem wH {x:Int}:∀ y,m.col y≠0->(m.bI x).col y≠0:=fun y hy=>by
 rcases Mk.qQ (m:=m) (x:=x) y with h|⟨_,_,h,_⟩
 ·rw [h];exact hy
 exact absurd h hy
theorem xE (d:m.Ok):∀ y,m.col y≠0->m.step.2.2.col y≠0:=fun y hy=>by
 unfold Mk.step
 cases e:m.list with
 | nil=>exact hy
 | cons x l=>
  rcases Mk.aBl d e y with ⟨z,_⟩|⟨_,z⟩|⟨_,z,_⟩
  ·show (m.dN x).col y≠0;rw [z];decide
  ·show (m.dN x).col y≠0;rw [z];exact hy
  exact absurd z hy
theorem aJM {r:Int×Int×Hp}:∀ y,m.col y≠0->(m.made r).2.2.col y≠0:=fun y hy=>by
 unfold Mk.made;simp only;split
 ·show jO m.col r.1 2 y≠0
  by_cases e:y=r.1
  ·rw [e,bY];decide
  rw [bG _ _ e];exact hy
 exact hy
theorem aLF (a b c:Int):∀ y,m.col y≠0->(m.store a b c).2.col y≠0:=fun y hy=>by
 unfold Mk.store;simp only;split
 ·exact wH _ (wH (m:=m.put _) _ hy)
 exact hy
theorem Pst.step (h:Pst t m) (hg:t.Good m) (hm:m.Ok) (hp:t.ph≠0):((t.step m).2.2.1=0->(t.step m).2.2.2.1.ph≠0/\Pst (t.step m).2.2.2.1 (t.step m).2.2.2.2)/\((t.step m).2.2.1≠0->(t.step m).2.2.2.1.ph=0/\(t.step m).2.2.2.1.All (t.step m).2.2.2.2/\(t.step m).2.2.2.2=m):=by
 have hs:=h.settle hg.b hg.nl hg.z3;have h6:=Tb.cO (m:=m) (t:=t) (by omega) hg.p4;have z:=hg.settle hm.hf.ok;have x3:=(hg.step hm).2.2.2 hp;refine ⟨fun h0=>⟨?_,?_⟩,fun h0=>?_⟩
 ·rcases x3 with ⟨_,h1,_⟩|⟨h1,_⟩
  ·omega
  omega
 ·unfold Tb.step at h0 ⊢;rw [if_neg hp] at h0 ⊢;simp only at h0 ⊢;generalize t.settle m=s at *
  by_cases h3:s.ph=3
  ·rw [if_pos h3] at h0 ⊢;exact (hs.mono (xE hm)).settle (z.b.marker (fun k hk=>by rw [Mk.mY];exact hk)) z.nl z.z3
  rw [if_neg h3] at h0 ⊢
  by_cases hl:s.ents.length<=s.nx
  ·rw [if_pos hl] at h0;exact absurd h0 (by show ¬ ((3:Int)=0);decide)
  rw [if_neg hl];have hi:s.nx<s.ents.length:=by omega
  have x1:=z.clear h6 hi h3 hm;refine Pst.settle x1.b ?_ x1.nl x1.z3;have y1:(eAt s.ents s.nx).key=(s.ph:Int):=by
   have x7:=iM (z.b.kd s.nx hi);have x8:=h6.p1;have x9:=z.p4
   by_cases e1:s.ph=1\/s.ph=2
   ·have:=(h6.a e1).2;omega
   have e4:s.ph=4:=by omega
   have:=h6.d e4 hi;omega
  have x2:∀ i,s.past s.ph (s.nx+1) i->i≠s.nx->s.past s.ph s.nx i:=fun i h1 h2=>by
   rcases h1 with h1|⟨h1,h3⟩
   ·exact .inl h1
   exact .inr ⟨h1,by omega⟩
  have h8:∀ (zM:List En) (q':List Int) (m':Mk),zM.length=s.ents.length->(∀ j,j≠s.nx->eAt zM j=eAt s.ents j)->(eAt zM s.nx).kind=(eAt s.ents s.nx).kind->(eAt zM s.nx).fine m'->(∀ y,m.col y≠0->m'.col y≠0)->Pst ⟨zM,q',s.ph,s.nx+1,s.fd⟩ m':=fun zM q' m' h1 h2 h3 h4 h5=>by
   refine ⟨fun i hi y0=>?_,fun e i hi hk hf=>?_⟩
   ·show (eAt zM i).fine m'
    by_cases e:i=s.nx
    ·rw [e];exact h4
    rw [h2 i e];refine (hs.p i (by rw [<-h1];exact hi) (x2 i ?_ e)).mono h5;have x5:(eAt zM i).key<(s.ph:Int)\/((eAt zM i).key=(s.ph:Int)/\i<s.nx+1):=y0;rw [h2 i e] at x5;exact x5
   show (eAt zM i).fine m';have h7:(eAt zM i).kind=2:=hk
   by_cases e2:i=s.nx
   ·rw [e2];exact h4
   rw [h2 i e2] at h7 ⊢;exact (hs.f e i (by rw [<-h1];exact hi) h7 hf).mono h5
  have h9:(eAt (s.ents.set s.nx (eAt s.ents s.nx).off) s.nx).kind=(eAt s.ents s.nx).kind:=by rw [aJz hi];rfl
  have x4:∀ m':Mk,(eAt (s.ents.set s.nx (eAt s.ents s.nx).off) s.nx).fine m':=fun m'=>by rw [aJz hi];exact .inl rfl
  unfold Tb.clear;simp only
  by_cases e2:s.ph=2
  ·rw [if_pos e2];have h7:(eAt s.ents s.nx).kind=2:=(h6.a (.inr e2)).2.trans (by rw [e2];rfl)
   by_cases hf:s.fd s.nx=true
   ·rw [if_pos hf];exact h8 _ _ _ (List.length_set ..) (aJy hi) h9 (x4 _) wH
   rw [if_neg hf];exact h8 s.ents s.q m rfl (fun _ _=>rfl) rfl (hs.f e2 _ hi h7 (by cases hx:s.fd s.nx;rfl;exact absurd hx hf)) (fun _ x=>x)
  rw [if_neg e2]
  by_cases hw:m.isW (eAt s.ents s.nx).tgt=true
  ·rw [if_pos hw];exact h8 _ _ m (List.length_set ..) (aJy hi) h9 (x4 _) (fun _ x=>x)
  rw [if_neg hw];exact h8 s.ents s.q m rfl (fun _ _=>rfl) rfl (aKI z.b hi (by cases hx:m.isW (eAt s.ents s.nx).tgt;rfl;exact absurd hx hw)) (fun _ x=>x)
 unfold Tb.step at h0 ⊢;rw [if_neg hp] at h0 ⊢;simp only at h0 ⊢;generalize t.settle m=s at *
 by_cases h3:s.ph=3
 ·rw [if_pos h3] at h0;exact absurd rfl h0
 rw [if_neg h3] at h0 ⊢
 by_cases hl:s.ents.length<=s.nx
 ·rw [if_pos hl];refine ⟨rfl,fun i hi=>hs.p i hi ?_,rfl⟩;have x8:=h6.p1;have x9:=z.p4;have e4:s.ph=4:=by
   by_cases e1:s.ph=1\/s.ph=2
   ·have:=(h6.a e1).1;omega
   omega
  have x6:i<s.ents.length:=hi;have x7:=iM (z.b.kd i x6);unfold Tb.past;omega
 rw [if_neg hl] at h0;exact absurd rfl h0
theorem Pst.begin (d:t.Good m) (hm:m.Ok) (e:t.ph=0) (hl:m.list=[]):(t.begin m).2.ph≠0/\Pst (t.begin m).2 m:=by
 have y:t.begin m=(0,(t.at 1 0).settle m):=by
  unfold Tb.begin;rw [if_neg (by intro h;rcases h with h|h;exact h e;exact h hl)]
 rw [y];have z:=Tb.cO (t:=t.at 1 0) (m:=m) (Nat.le_refl 1) (by show 1<=4;omega);refine ⟨?_,(Pst.start d.b).settle (d.b.at _ _) (Nat.zero_le _) (fun _=>rfl)⟩;have:=z.p1;show ((t.at 1 0).settle m).ph≠0;omega
end
def Hp.len (M:Hp) (h:Int):Int:=(M.type h).2.2.1
def Hp.bK (M:Hp) (h:Int):Nat->Hp
 | 0=>M
 | k+1=>if ((M.bK h k).isRef h (k:Int)).1=true then ((M.bK h k).set h (k:Int) 0).2 else M.bK h k
def Hp.blank (M:Hp) (h:Int):Hp:=M.bK h (M.len h).toNat
def Hp.cZ (M:Hp) (l:List Int):Nat->Hp
 | 0=>M
 | k+1=>(M.cZ l k).blank (gI l k)
structure Co where
 m:Mk
 t:Tb
 ph:Nat
 cr:Int
 rate:Int
 pages:Nat
 sw:List Int
 mv:Nat
def Co.new (y:Nat) (z:Int):Co:=⟨Mk.start (Hp.new y),Tb.new,0,0,z,y,[],0⟩
def Co.pI (c:Co) (m:Mk):Co:={ c with m:=m }
def Co.dZ (c:Co) (t:Tb):Co:={ c with t:=t }
def Co.mark (c:Co):Int×Co:=(1+c.m.M.len c.m.step.1,{ c with m:=c.m.step.2.2 })
def Co.dV (c:Co) (s:List Int):Int×Co:=(1,{ c with ph:=3,sw:=s,m:=c.m.put (c.m.M.cZ s s.length) })
def Co.gZ (c:Co):Int×Co:=c.dV c.m.white
def Co.iL (c:Co):Int×Co:=(1,{ c with ph:=2,t:=(c.t.begin c.m).2 })
def Co.tail (c:Co):Int×Co:=if c.m.list=[] then c.gZ else c.mark
def Co.refs (c:Co):Int×Co:=
 if (c.t.step c.m).2.2.1=0 then (if (c.t.step c.m).1=3 then 1+c.m.M.len (c.t.step c.m).2.1 else 1,{ c with t:=(c.t.step c.m).2.2.2.1,m:=(c.t.step c.m).2.2.2.2 })
 else ({ c with t:=(c.t.step c.m).2.2.2.1,m:=(c.t.step c.m).2.2.2.2 }:Co).tail
def Co.free (c:Co):Int×Co:=match c.sw with
 | []=>(1,{ c with ph:=4,mv:=0 })
 | h :: r=>(1+((c.m.M.blocks h).1.length:Int),{ c with sw:=r,m:=c.m.put (c.m.M.release h).2 })
def Co.move (c:Co):Int×Co:=
 if c.mv=8*c.pages\/c.m.M.P.move.2.2.1≠0 then (1,{ c with ph:=0,cr:=0 })
 else (4+(bsz (c.m.M.P.class (c.m.M.P.move.1.tdiv 16)).1:Int),{ c with m:=c.m.put c.m.M.move.2.2,mv:=c.mv+1 })
def Co.step (c:Co):Int×Int×Co:=
 if c.ph=0 then (0,13,c)
 else if c.ph=1 then (if c.m.list=[] then (c.iL.1,0,c.iL.2) else (c.mark.1,0,c.mark.2))
 else if c.ph=2 then (c.refs.1,0,c.refs.2)
 else if c.ph=3 then (c.free.1,0,c.free.2)
 else (c.move.1,0,c.move.2)
def Co.steps:Nat->Co->Co|0,c=>c|k+1,c=>(Co.steps k c).step.2.2
def Co.costs:Nat->Co->Int|0,_=>0|k+1,c=>Co.costs k c+(Co.steps k c).step.1
def Co.pay (c:Co):Co:=({ c with cr:=c.cr - c.step.1 }:Co).step.2.2
def Co.stops (c:Co):Prop:=c.ph=0\/c.cr<c.step.1
def Co.pays:Nat->Co->Co|0,c=>c|k+1,c=>(Co.pays k c).pay
open Classical in
noncomputable def Co.aLk (c:Co):Nat:=if h:∃ i,(Co.steps i c).ph=0/\∀ j,j<i->(Co.steps j c).ph≠0 then Classical.choose h else 0
open Classical in
noncomputable def Co.gives (c:Co):Nat:=if h:∃ i,(Co.pays i c).stops/\∀ j,j<i->¬ (Co.pays j c).stops then Classical.choose h else 0
noncomputable def Co.finish (c:Co):Int×Int×Int×Co:=if c.ph=0 then (0,0,13,c) else ((c.aLk:Int),Co.costs c.aLk c,0,Co.steps c.aLk c)
def Co.more (c:Co) (n:Int):Co:={ c with cr:=c.cr+n }
noncomputable def Co.give (c:Co) (n:Int):Int×Co:=if c.ph=0 then (0,c) else (((c.more n).gives:Int),Co.pays (c.more n).gives (c.more n))
noncomputable def Co.fZ (c:Co) (n:Int):Int×Int×Co:=if n<0\/10000<n then (0,1,c) else ((c.give n).1,0,(c.give n).2)
open Classical in
noncomputable def Co.begin (c:Co) (y:List Int):Int×Co:=
 if 192<y.length then (1,c) else if c.ph≠0 then (13,c) else if c.m.M.fJ y then (3,c)
 else (0,{ c with m:=(Mk.start c.m.M).bC y,ph:=1,cr:=-1 - (y.length:Int),mv:=0 })
def Co.hid (c:Co) (h:Int):Bool:=if c.ph=2 then c.m.isW h else decide (h∈c.sw)
def Co.bar (c:Co):Bool:=decide (c.ph=1\/c.ph=2)
def Co.newObj (c:Co) (k:Int) (l:List Bool):Int×Int×Co:=
 if c.bar then ((c.m.aH k l).1,(c.m.aH k l).2.1,{ c with m:=(c.m.aH k l).2.2 })
 else ((c.m.M.aH k l).1,(c.m.M.aH k l).2.1,{ c with m:=c.m.put (c.m.M.aH k l).2.2 })
def Co.dJ (c:Co) (k a n:Int):Int×Int×Co:=
 if c.bar then ((c.m.aG k a n).1,(c.m.aG k a n).2.1,{ c with m:=(c.m.aG k a n).2.2 })
 else ((c.m.M.aG k a n).1,(c.m.M.aG k a n).2.1,{ c with m:=c.m.put (c.m.M.aG k a n).2.2 })
noncomputable def Co.aH (c:Co) (k:Int) (l:List Bool):Int×Int×Co:=if k<0\/10<=k\/7<l.length then (0,1,c) else (c.give c.rate).2.newObj k l
def aBa (n:Int):Int:=if 7<n then 1+(n+7).tdiv 8 else 1
noncomputable def Co.aG (c:Co) (k a n:Int):Int×Int×Co:=
 if n<0\/48<n\/¬ ((k=3/\a=0)\/(k=4/\0<=a/\a<10)) then (0,1,c) else (c.give (c.rate*aBa n)).2.dJ k a n
def Co.get (c:Co) (h s:Int):Int×Int:=if c.hid h then (0,3) else c.m.M.get h s
def Co.store (c:Co) (h s v:Int):Int×Co:=
 if c.hid h=true\/((c.m.M.isRef h s).1=true/\c.hid v=true) then (3,c)
 else if c.bar then ((c.m.store h s v).1,{ c with m:=(c.m.store h s v).2 }) else ((c.m.M.set h s v).1,{ c with m:=c.m.put (c.m.M.set h s v).2 })
def Co.refer (c:Co) (k x g:Int):Int×Int×Co:=
 if c.ph=2 then (0,if k<1\/3<k then 1 else 13,c)
 else ((c.t.add c.m k (if c.hid x then 0 else x) g).1,(c.t.add c.m k (if c.hid x then 0 else x) g).2.1,{ c with t:=(c.t.add c.m k (if c.hid x then 0 else x) g).2.2 })
def Co.target (c:Co) (i:Int):Int×Int×Co:=
 if (c.t.target i).2≠0 then (0,(c.t.target i).2,c) else if c.hid (c.t.target i).1 then (0,0,c)
 else ((c.t.target i).1,0,if c.ph=1 then { c with m:=c.m.bI (c.t.target i).1 } else c)
def Co.take (c:Co):Int×Int×Co:=(c.t.take.1,c.t.take.2.1,{ c with t:=c.t.take.2.2 })
structure Co.Okc (c:Co):Prop where
 hf:c.m.M.OkF
 mo:c.ph=1\/c.ph=2->c.m.Ok
 nl:c.ph≠1->c.ph≠2->c.m.list=[]
 tg:c.t.Good c.m
 t0:c.ph≠2->c.t.ph=0
 p4:c.ph<=4
 sw:c.ph≠3->c.sw=[]
 su:∀ x,x∈c.sw->(c.m.M.ob x).isSome=true
 sn:c.sw.Nodup
 st:∀ i,i<c.t.ents.length->(eAt c.t.ents i).tgt∉c.sw
 pa:c.ph=2->c.t.ph≠0->Pst c.t c.m
 al:c.ph=2->c.t.ph=0->c.t.All c.m
 cr1 : -193<=c.cr
 c0:c.ph=0->c.cr=0
 rt:0<=c.rate/\c.rate<=100
 pg:1<=c.pages/\c.pages<=24
 mv:c.mv<=8*c.pages
structure Co.Ok (c:Co):Prop where
 k:c.Okc
 cr2:c.cr<=60
section
variable {M:Hp} {x:Int}
theorem aNJ {k:Nat} (h:x∈M.aZ k):(M.ob x).isSome=true/\1<=x/\x<=(k:Int):=by
 induction k with
 | zero=>cases h
 | succ k z=>
  unfold Hp.aZ at h;rcases List.mem_append.1 h with h|h
  ·have:=z h;exact ⟨this.1,this.2.1,by omega⟩
  split at h
  ·rename_i e;have y:x=(k:Int)+1:=by simpa using h
   rw [y];exact ⟨e,by omega,by omega⟩
  cases h
theorem aMw (M:Hp) (k:Nat):(M.aZ k).Nodup:=by
 induction k with
 | zero=>exact List.nodup_nil
 | succ k z=>
  unfold Hp.aZ;rw [List.nodup_append];refine ⟨z,by split<;>simp,fun a y b hb e=>?_⟩
  have d:=aNJ y;split at hb
  ·have:b=(k:Int)+1:=by simpa using hb
   omega
  cases hb
theorem aRP {k:Nat} (h:(M.ob x).isSome=true) (z:1<=x) (d:x<=(k:Int)):x∈M.aZ k:=by
 induction k with
 | zero=>omega
 | succ k y=>
  unfold Hp.aZ
  by_cases e:x=(k:Int)+1
  ·rw [<-e,if_pos h];simp
  exact List.mem_append_left _ (y (by omega))
theorem Hp.Ok.aQd (y:M.Ok):x∈M.handles↔(M.ob x).isSome=true:=
 ⟨fun h=>(aNJ h).1,fun h=>aRP h (y.inR h).1 (y.inR h).2⟩
theorem Mk.yM {m:Mk} (y:m.M.Ok):x∈m.white↔(m.M.ob x).isSome=true/\m.col x=0:=by
 unfold Mk.white;rw [List.mem_filter,decide_eq_true_eq,y.aQd]
theorem Mk.wW (m:Mk):m.white.Nodup:=(aMw m.M 192).filter _
def Hp.Same (M N:Hp):Prop:=∀ k,(N.ob k).isSome=(M.ob k).isSome
theorem Hp.Same.refl (M:Hp):M.Same M:=fun _=>rfl
theorem Hp.Same.trans {M N O:Hp} (h:M.Same N) (y:N.Same O):M.Same O:=fun k=>(y k).trans (h k)
theorem Hp.aP (M:Hp) (h s v:Int):M.Same (M.set h s v).2:=fun k=>M.lT h s v k
theorem aCf (z:M.OkF) (h:Int) (k:Nat):(M.bK h k).OkF/\M.Same (M.bK h k):=by
 induction k with
 | zero=>exact ⟨z,.refl M⟩
 | succ k y=>
  unfold Hp.bK;split
  ·exact ⟨y.1.set _ _ _,y.2.trans (Hp.aP _ _ _ _)⟩
  exact y
theorem vJ (z:M.OkF) (l:List Int) (k:Nat):(M.cZ l k).OkF/\M.Same (M.cZ l k):=by
 induction k with
 | zero=>exact ⟨z,.refl M⟩
 | succ k y=>
  have:=aCf y.1 (gI l k) ((M.cZ l k).len (gI l k)).toNat
  exact ⟨this.1,y.2.trans this.2⟩
theorem aJJ (M:Hp):M.Same M.move.2.2:=fun k=>by
 unfold Hp.move;split
 ·split
  ·rename_i o y _;unfold Hp.fD;show (dZ M.ob _ _ k).isSome=_
   by_cases e:k=(M.owner M.P.move.1:Int)+1
   ·rw [e,aY,y];rfl
   rw [bD _ _ e]
  rfl
 rfl
theorem lU (M:Hp) {h k:Int} (e:k≠h):(M.release h).2.ob k=M.ob k:=by
 unfold Hp.release;split
 ·rfl
 split
 ·rfl
 show dZ M.ob h none k=_;rw [bD _ _ e]
theorem fF (y:M.Ok) (h:Int):0<=M.len h/\M.len h<=48:=by
 unfold Hp.len Hp.type;split
 ·exact ⟨Int.le_refl 0,by decide⟩
 rename_i o z;have:=(y.th h o z).le;show 0<=(o.slots.length:Int)/\(o.slots.length:Int)<=48;omega
theorem kS (y:M.Ok) (h:Int):(M.blocks h).1.length<=7:=by
 unfold Hp.blocks;split
 ·exact Nat.zero_le _
 rename_i o z;exact (y.aAu z).2.1
end
section
variable {c:Co}
theorem Tb.Good.us2 {t:Tb} {m y:Mk} (h:t.Good m) (z:∀ i,i<t.ents.length->(eAt t.ents i).tgt≠0->(y.M.ob (eAt t.ents i).tgt).isSome=true):t.Good y:=
 ⟨⟨h.b.le,h.b.kd,z,h.b.ql⟩,h.p4,h.nl,h.z3,h.fd⟩
theorem Co.Okc.mark (h:c.Okc) (hp:c.ph=1\/c.ph=2):c.mark.2.Okc:=by
 have hm:=h.mo hp;have d:c.m.step.2.2.M=c.m.M:=Mk.mY;refine ⟨by show c.m.step.2.2.M.OkF;rw [d];exact h.hf,fun _=>hm.step,fun h1 h2=>absurd hp (by intro y;rcases y with y|y;exact h1 y;exact h2 y),h.tg.marker (fun k hk=>by show (c.m.step.2.2.M.ob k).isSome=true;rw [d];exact hk),h.t0,h.p4,h.sw,fun x hx=>by show (c.m.step.2.2.M.ob x).isSome=true;rw [d];exact h.su x hx,h.sn,h.st,fun e z=>(h.pa e z).mono (xE hm),fun e z=>(h.al e z).mono (xE hm),h.cr1,h.c0,h.rt,h.pg,h.mv⟩
theorem Co.Okc.iL (h:c.Okc) (d:c.ph=1) (z:c.m.list=[]):c.iL.2.Okc:=by
 have y:=h.mo (.inl d);have ht:=h.t0 (by omega);have hb:=Pst.begin h.tg y ht z;refine ⟨h.hf,fun _=>y,fun _ h2=>absurd rfl h2,h.tg.begin y.hf.ok,fun h2=>absurd rfl h2,by show 2<=4;omega,fun _=>h.sw (by omega),h.su,h.sn,fun i hi=>?_,fun _ _=>hb.2,fun _ e=>absurd e hb.1,h.cr1,fun e=>(by cases e),h.rt,h.pg,h.mv⟩;show _∉c.sw;rw [h.sw (by omega)];simp
theorem Co.aGx (c:Co) (s:List Int):(c.dV s).2.cr=c.cr:=rfl
theorem Co.Okc.dV (h:c.Okc) (d:c.ph=2) (ht:c.t.ph=0) (hl:c.m.list=[]) {s:List Int} (hs:∀ x,x∈s->(c.m.M.ob x).isSome=true/\c.m.col x=0) (hn:s.Nodup):(c.dV s).2.Okc:=by
 have hm:=h.mo (.inr d);obtain ⟨h1,z⟩:=vJ h.hf s s.length;refine ⟨h1,fun e=>(by rcases e with e|e<;>cases e),fun _ _=>hl,h.tg.marker (fun k hk=>by show ((c.m.M.cZ s s.length).ob k).isSome=true;rw [z k];exact hk),fun _=>ht,by show 3<=4;omega,fun e=>absurd rfl e,fun x hx=>by show ((c.m.M.cZ s s.length).ob x).isSome=true;rw [z x];exact (hs x hx).1,hn,fun i hi hx=>?_,fun e=>(by cases e),fun e=>(by cases e),h.cr1,fun e=>(by cases e),h.rt,h.pg,h.mv⟩
 obtain ⟨h3,h4⟩:=hs _ hx;rcases h.al d ht i hi with y|y
 ·have:=(h.hf.ok.inR h3).1;have h6:(eAt (c.dV s).2.t.ents i).tgt=0:=y;omega
 exact y h4
theorem Co.Okc.gZ (h:c.Okc) (z:c.ph=2) (d:c.t.ph=0) (y:c.m.list=[]):c.gZ.2.Okc:=by
 unfold Co.gZ;exact h.dV z d y (fun x hx=>(Mk.yM h.hf.ok).1 hx) c.m.wW
theorem Co.Okc.tail (h:c.Okc) (y:c.ph=2) (d:c.t.ph=0):c.tail.2.Okc:=by
 unfold Co.tail;split
 ·rename_i z;exact h.gZ y d z
 exact h.mark (.inr y)
def Co.stepT (c:Co):Co:={ c with t:=(c.t.step c.m).2.2.2.1,m:=(c.t.step c.m).2.2.2.2 }
theorem Co.Okc.stepT (h:c.Okc) (z:c.ph=2):c.stepT.Okc/\((c.t.step c.m).2.2.1≠0->c.stepT.t.ph=0)/\((c.t.step c.m).2.2.1=0->c.stepT.t.ph≠0):=by
 have hm:=h.mo (.inr z);obtain ⟨g1,g2,g3,_⟩:=h.tg.step hm;have h4:=h.sw (by omega);have base:∀ (h1:c.stepT.t.ph≠0->Pst c.stepT.t c.stepT.m) (d:c.stepT.t.ph=0->c.stepT.t.All c.stepT.m),c.stepT.Okc:=fun h1 d=>
  ⟨by show (c.t.step c.m).2.2.2.2.M.OkF;rw [g3];exact h.hf,fun _=>g2,fun _ h2=>absurd z h2,g1,fun h2=>absurd z h2,h.p4,h.sw,fun x hx=>by show ((c.t.step c.m).2.2.2.2.M.ob x).isSome=true;rw [g3];exact h.su x hx,h.sn,fun i hi=>by show _∉c.sw;rw [h4];simp,fun _ e=>h1 e,fun _ e=>d e,h.cr1,h.c0,h.rt,h.pg,h.mv⟩
 by_cases y:c.t.ph=0
 ·have hs:c.t.step c.m=(0,0,13,c.t,c.m):=by unfold Tb.step;rw [if_pos y]
  have ht:c.stepT.t=c.t:=by show (c.t.step c.m).2.2.2.1=_;rw [hs]
  have h3:c.stepT.m=c.m:=by show (c.t.step c.m).2.2.2.2=_;rw [hs]
  refine ⟨base (fun e=>absurd (by rw [ht];exact y) e) (fun _=>by rw [ht,h3];exact h.al z y),fun _=>by rw [ht];exact y,fun e=>?_⟩;rw [hs] at e;cases e
 obtain ⟨s1,s2⟩:=(h.pa z y).step h.tg hm y
 by_cases e0:(c.t.step c.m).2.2.1=0
 ·obtain ⟨s3,s4⟩:=s1 e0;exact ⟨base (fun _=>s4) (fun e=>absurd e s3),fun e=>absurd e0 e,fun _=>s3⟩
 obtain ⟨s3,s4,s5⟩:=s2 e0;exact ⟨base (fun e=>absurd s3 e) (fun _=>s4),fun _=>s3,fun e=>absurd e e0⟩
theorem Co.eY (c:Co):c.refs=if (c.t.step c.m).2.2.1=0 then (if (c.t.step c.m).1=3 then 1+c.m.M.len (c.t.step c.m).2.1 else 1,c.stepT) else c.stepT.tail:=rfl
theorem Co.Okc.refs (h:c.Okc) (z:c.ph=2):c.refs.2.Okc:=by
 obtain ⟨y,d,h3⟩:=h.stepT z;rw [Co.eY];split
 ·exact y
 rename_i e;exact y.tail z (d e)
theorem Co.Okc.free (h:c.Okc) (hp:c.ph=3):c.free.2.Okc:=by
 have ht:=h.t0 (by omega);unfold Co.free
 cases e:c.sw with
 | nil=>exact ⟨h.hf,fun e=>(by rcases e with e|e<;>cases e),fun _ _=>h.nl (by omega) (by omega),h.tg,fun _=>ht,Nat.le_refl 4,fun _=>rfl,fun x hx=>(by cases hx),List.nodup_nil,fun i d hx=>(by cases hx),fun e=>by (cases e),fun e=>by (cases e),h.cr1,fun e=>by (cases e),h.rt,h.pg,Nat.zero_le _⟩
 | cons x r=>
  have hn:=h.sn;rw [e] at hn;obtain ⟨h0,h1⟩:=List.nodup_cons.1 hn;have hx:∀ y,y∈r->y≠x:=fun y hy z=>h0 (by rw [<-z];exact hy);refine ⟨h.hf.release x,fun e=>by have z:c.ph=1\/c.ph=2:=e;omega,h.nl,h.tg.us2 (fun i d hz=>?_),h.t0,h.p4,fun z=>absurd hp z,fun y hy=>?_,h1,fun i d hy=>?_,fun z=>by have e3:c.ph=2:=z;omega,fun z=>by have e3:c.ph=2:=z;omega,h.cr1,h.c0,h.rt,h.pg,h.mv⟩
  ·show ((c.m.M.release x).2.ob (eAt c.t.ents i).tgt).isSome=true;rw [lU _ (fun z=>h.st i d (by rw [e,z];exact List.mem_cons_self))];exact h.tg.b.us i d hz
  ·show ((c.m.M.release x).2.ob y).isSome=true;rw [lU _ (hx y hy)];exact h.su y (by rw [e];exact List.mem_cons_of_mem _ hy)
  exact h.st i d (by rw [e];exact List.mem_cons_of_mem _ hy)
theorem Co.Okc.heap (h:c.Okc) (y:¬ (c.ph=1\/c.ph=2)) {M:Hp} (d:M.OkF) (z:∀ k,(c.m.M.ob k).isSome=true->(M.ob k).isSome=true):({ c with m:=c.m.put M }:Co).Okc:=
 ⟨d,fun e=>absurd e y,h.nl,h.tg.marker z,h.t0,h.p4,h.sw,fun x hx=>z x (h.su x hx),h.sn,h.st,fun e=>absurd (.inr e) y,fun e=>absurd (.inr e) y,h.cr1,h.c0,h.rt,h.pg,h.mv⟩
theorem Co.Okc.marker (h:c.Okc) (hp:c.ph=1\/c.ph=2) {m:Mk} (d:m.Ok) (hu:∀ k,(c.m.M.ob k).isSome=true->(m.M.ob k).isSome=true) (z:∀ k,c.m.col k≠0->m.col k≠0):({ c with m:=m }:Co).Okc:=
 ⟨d.hf,fun _=>d,fun h1 h2=>absurd hp (by intro y;rcases y with y|y;exact h1 y;exact h2 y),h.tg.marker hu,h.t0,h.p4,h.sw,fun x hx=>hu x (h.su x hx),h.sn,h.st,fun e e2=>(h.pa e e2).mono z,fun e e2=>(h.al e e2).mono z,h.cr1,h.c0,h.rt,h.pg,h.mv⟩
theorem Co.Okc.move (h:c.Okc) (hp:c.ph=4):c.move.2.Okc:=by
 have ht:=h.t0 (by omega);unfold Co.move;split
 ·exact ⟨h.hf,fun e=>(by rcases e with e|e<;>cases e),fun _ _=>h.nl (by omega) (by omega),h.tg,fun _=>ht,Nat.zero_le _,fun _=>h.sw (by omega),h.su,h.sn,h.st,fun e=>by (cases e),fun e=>by (cases e),by show (-193:Int)<=0;omega,fun _=>rfl,h.rt,h.pg,h.mv⟩
 rename_i z;have y:=h.heap (by omega) h.hf.move (fun k d=>by rw [aJJ];exact d);exact ⟨y.hf,y.mo,y.nl,y.tg,y.t0,y.p4,y.sw,y.su,y.sn,y.st,y.pa,y.al,y.cr1,y.c0,y.rt,y.pg,by have h2:=h.mv;have h3:c.mv≠8*c.pages:=fun e=>z (.inl e);show c.mv+1<=8*c.pages;omega⟩
theorem Co.Okc.step (h:c.Okc):c.step.2.2.Okc:=by
 unfold Co.step
 by_cases h0:c.ph=0
 ·rw [if_pos h0];exact h
 rw [if_neg h0]
 by_cases y:c.ph=1
 ·rw [if_pos y]
  by_cases e:c.m.list=[]
  ·rw [if_pos e];exact h.iL y e
  rw [if_neg e];exact h.mark (.inl y)
 rw [if_neg y]
 by_cases z:c.ph=2
 ·rw [if_pos z];exact h.refs z
 rw [if_neg z]
 by_cases d:c.ph=3
 ·rw [if_pos d];exact h.free d
 rw [if_neg d];exact h.move (by have:=h.p4;omega)
theorem Co.Okc.zU (h:c.Okc) (z:c.ph≠0) {n:Int} (y : -193<=n):({ c with cr:=n }:Co).Okc:=
 ⟨h.hf,h.mo,h.nl,h.tg,h.t0,h.p4,h.sw,h.su,h.sn,h.st,h.pa,h.al,y,fun e=>absurd e z,h.rt,h.pg,h.mv⟩
theorem Co.aEj (c:Co):c.step.2.2.cr=c.cr\/(c.step.2.2.ph=0/\c.step.2.2.cr=0):=by
 unfold Co.step
 by_cases y:c.ph=0
 ·rw [if_pos y];exact .inl rfl
 rw [if_neg y]
 by_cases z:c.ph=1
 ·rw [if_pos z]
  by_cases hl:c.m.list=[]
  ·rw [if_pos hl];exact .inl rfl
  rw [if_neg hl];exact .inl rfl
 rw [if_neg z]
 by_cases d:c.ph=2
 ·rw [if_pos d];show c.refs.2.cr=c.cr\/_;rw [Co.eY];split
  ·exact .inl rfl
  unfold Co.tail;split
  ·unfold Co.gZ;exact .inl (Co.aGx _ _)
  exact .inl rfl
 rw [if_neg d]
 by_cases e:c.ph=3
 ·rw [if_pos e];show c.free.2.cr=c.cr\/_;unfold Co.free;split<;>exact .inl rfl
 rw [if_neg e];show c.move.2.cr=c.cr\/(c.move.2.ph=0/\c.move.2.cr=0);unfold Co.move;split
 ·exact .inr ⟨rfl,rfl⟩
 exact .inl rfl
theorem Co.Ok.step (h:c.Ok):c.step.2.2.Ok:=⟨h.k.step,by rcases c.aEj with y|⟨_,y⟩;rw [y];exact h.cr2;rw [y];decide⟩
theorem Co.Ok.steps (h:c.Ok):∀ k,(Co.steps k c).Ok
 | 0=>h
 | k+1=>(Co.Ok.steps h k).step
theorem aDP {k:Int} (h:k<=2):2<=bsz k/\bsz k<=8:=by
 unfold bsz;have y:k.toNat=0\/k.toNat=1\/k.toNat=2:=by omega
 rcases y with y|y|y<;>rw [y]<;>decide
theorem wS {P:Pl} (y:P.ok) (i:Int):(P.class i).1<=2:=by
 unfold Pl.class;split
 ·decide
 rename_i h;have:=(y i.toNat (by omega)).cls;show (P.pg i.toNat).cls<=2;rcases this with h1|h1|h1|h1<;>omega
theorem Co.aIH (h:c.Okc):1<=c.tail.1/\c.tail.1<=49:=by
 unfold Co.tail;split
 ·exact ⟨Int.le_refl 1,by show (1:Int)<=49;decide⟩
 have:=fF h.hf.ok c.m.step.1;show 1<=1+c.m.M.len c.m.step.1/\1+c.m.M.len c.m.step.1<=49;omega
theorem Co.Okc.cost (h:c.Okc) (hp:c.ph≠0):1<=c.step.1/\c.step.1<=60/\c.step.2.1=0:=by
 unfold Co.step;rw [if_neg hp]
 by_cases h1:c.ph=1
 ·rw [if_pos h1]
  by_cases z:c.m.list=[]
  ·rw [if_pos z];exact ⟨Int.le_refl 1,by show (1:Int)<=60;decide,rfl⟩
  rw [if_neg z];have:=fF h.hf.ok c.m.step.1;show 1<=1+c.m.M.len c.m.step.1/\1+c.m.M.len c.m.step.1<=60/\_;exact ⟨by omega,by omega,rfl⟩
 rw [if_neg h1]
 by_cases y:c.ph=2
 ·rw [if_pos y];show 1<=c.refs.1/\c.refs.1<=60/\(0:Int)=0;obtain ⟨k1,k2,_⟩:=h.stepT y;rw [Co.eY];split
  ·have z:=fF h.hf.ok (c.t.step c.m).2.1;generalize c.m.M.len (c.t.step c.m).2.1=n at *
   by_cases d:(c.t.step c.m).1=3
   ·rw [if_pos d];show 1<=1+n/\1+n<=60/\_;exact ⟨by omega,by omega,rfl⟩
   rw [if_neg d];exact ⟨Int.le_refl 1,by show (1:Int)<=60;decide,rfl⟩
  have:=Co.aIH k1;exact ⟨this.1,by omega,rfl⟩
 rw [if_neg y]
 by_cases h3:c.ph=3
 ·rw [if_pos h3];show 1<=c.free.1/\c.free.1<=60/\(0:Int)=0;unfold Co.free;split
  ·exact ⟨Int.le_refl 1,by show (1:Int)<=60;decide,rfl⟩
  rename_i x r e;have:=kS h.hf.ok x;show 1<=1+((c.m.M.blocks x).1.length:Int)/\1+((c.m.M.blocks x).1.length:Int)<=60/\_;exact ⟨by omega,by omega,rfl⟩
 rw [if_neg h3];show 1<=c.move.1/\c.move.1<=60/\(0:Int)=0;unfold Co.move;split
 ·exact ⟨Int.le_refl 1,by show (1:Int)<=60;decide,rfl⟩
 have:=aDP (wS h.hf.ok.p (c.m.M.P.move.1.tdiv 16));show 1<=4+(bsz _:Int)/\4+(bsz _:Int)<=60/\_;exact ⟨by omega,by omega,rfl⟩
theorem Co.mX (y:c.ph=0):c.step=(0,13,c):=by unfold Co.step;rw [if_pos y]
end
end Go.Proofs.YthflghdaejbdkaaGreat
