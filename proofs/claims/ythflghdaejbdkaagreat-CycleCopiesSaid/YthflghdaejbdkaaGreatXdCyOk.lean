/- Lemmas of this claim. -/
import Derived.Test.YthflghdaejbdkaaGreatXdTbGood
namespace Go.Proofs.YthflghdaejbdkaaGreat
set_option linter.unusedVariables false
set_option maxRecDepth 100000
def En.key (e:En):Int:=if e.kind=3 then 4 else e.kind
def Tb.past (t0:Tb) (ph nx:Nat) (i:Nat):Prop:=(eAt t0.ents i).key<(ph:Int)\/((eAt t0.ents i).key=(ph:Int)/\i<nx)
section
variable {t0 t:Tb} {m0 m:Mk} {n i k:Nat}
theorem oJ {e:En} (h:1<=e.kind/\e.kind<=3):(e.key=1/\e.kind=1)\/(e.key=2/\e.kind=2)\/(e.key=4/\e.kind=3):=by
 unfold En.key
 by_cases h3:e.kind=3
 ·rw [if_pos h3];exact .inr (.inr ⟨rfl,h3⟩)
 rw [if_neg h3];omega
theorem wR {a b:Nat} (hk:∀ i,i<t0.ents.length->1<=(eAt t0.ents i).kind/\(eAt t0.ents i).kind<=3) (hb:a<b) (hbt:∀ i,i<t0.ents.length->(eAt t0.ents i).key<=(a:Int)\/(b:Int)<=(eAt t0.ents i).key) {nx:Nat} (hn:∀ i,i<t0.ents.length->nx<=i->(eAt t0.ents i).key≠(a:Int)) (hi:i<t0.ents.length):t0.past b 0 i↔t0.past a nx i:=by
 unfold Tb.past;have h1:=hbt i hi;have h2:=hn i hi;constructor
 ·rintro (h|h)
  ·by_cases e:(eAt t0.ents i).key=(a:Int)
   ·exact .inr ⟨e,by have:=fun x=>h2 x e;omega⟩
   exact .inl (by omega)
  omega
 rintro (h|h)
 ·exact .inl (by omega)
 exact .inl (by omega)
theorem wQ {a nx nx':Nat} (hle:nx<=nx') (hn:∀ i,i<t0.ents.length->nx<=i->i<nx'->(eAt t0.ents i).key≠(a:Int)) (hi:i<t0.ents.length):t0.past a nx' i↔t0.past a nx i:=by
 unfold Tb.past;have h2:=hn i hi;constructor
 ·rintro (h|h)
  ·exact .inl h
  exact .inr ⟨h.1,by have:=fun x=>h2 x h.2 h.1;omega⟩
 rintro (h|h)
 ·exact .inl h
 exact .inr ⟨h.1,by omega⟩
theorem aIn (hn:n<=t.ents.length) (a:Int):n<=nxt t.ents a n:=by
 by_cases h:nxt t.ents a n<t.ents.length
 ·exact (mO h).1
 have:=mM (l:=t.ents) (k:=a) (n:=n);omega
theorem aIm {l:List En} {x:Nat} (hx:x<l.length):∀ j,j≠x->eAt (l.set x (eAt l x).off) j=eAt l j:=fun j hj=>by rw [jU hx,if_neg hj]
theorem aMf {l:List En} {x:Nat} (hx:x<l.length):eAt (l.set x (eAt l x).off) x=(eAt l x).off:=by rw [jU hx,if_pos rfl]
end
def En.fine (e:En) (m:Mk):Prop:=e.tgt=0\/m.col e.tgt≠0
structure Pst (t:Tb) (m:Mk):Prop where
 p:∀ i,i<t.ents.length->t.past t.ph t.nx i->(eAt t.ents i).fine m
 f:t.ph=2->∀ i,i<t.ents.length->(eAt t.ents i).kind=2->t.fd i=false->(eAt t.ents i).fine m
def Tb.All (t:Tb) (m:Mk):Prop:=∀ i,i<t.ents.length->(eAt t.ents i).fine m
section
variable {t t' s:Tb} {m m':Mk} {n i k:Nat}
theorem En.fine.mono {e:En} (h:e.fine m) (hc:∀ x,m.col x≠0->m'.col x≠0):e.fine m':=h.imp id (hc _)
theorem Pst.mono (h:Pst t m) (hc:∀ x,m.col x≠0->m'.col x≠0):Pst t m':=⟨fun i hi hp=>(h.p i hi hp).mono hc,fun e i hi hk hf=>(h.f e i hi hk hf).mono hc⟩
theorem Tb.All.mono (h:t.All m) (hc:∀ x,m.col x≠0->m'.col x≠0):t.All m':=fun i hi=>(h i hi).mono hc
theorem aJr (hb:t.Base m) (hi:i<t.ents.length) (hw:m.isW (eAt t.ents i).tgt=false):(eAt t.ents i).fine m:=by
 by_cases hz:(eAt t.ents i).tgt=0
 ·exact .inl hz
 refine .inr fun h0=>?_;unfold Mk.isW at hw;rw [hb.us i hi hz,h0] at hw
 cases hw
theorem Pst.move (h:Pst t m) {t':Tb} (he:t'.ents=t.ents) (hp:∀ i,i<t.ents.length->(t.past t'.ph t'.nx i↔t.past t.ph t.nx i)) (hf:t'.ph=2->∀ i,i<t.ents.length->(eAt t.ents i).kind=2->t'.fd i=false->(eAt t.ents i).fine m):Pst t' m:=by
 refine ⟨fun i hi hn=>?_,fun e i hi hk hfd=>?_⟩
 ·have hq:t.past t'.ph t'.nx i:=by unfold Tb.past at hn ⊢;rw [he] at hn;exact hn
  rw [he] at hi ⊢;exact h.p i hi ((hp i hi).1 hq)
 rw [he] at hi hk ⊢;exact hf e i hi hk hfd
theorem Pst.zB (hb:t.Base m) (h:Pst (t.at 4 n) m) (hn:n<=t.ents.length):Pst (t.zB n) m:=by
 refine h.move rfl (fun i hi=>wQ (t0:=t.at 4 n) (a:=4) (nx:=n) (nx':=nxt t.ents 3 n) (aIn hn 3) (fun i hi h1 h2 e=>?_) hi) (fun e=>by simp [Tb.zB,Tb.at] at e);have h3:=vI (l:=t.ents) (k:=3) h1 h2;have h4:=oJ (hb.kd i hi);have h5:(eAt t.ents i).key=4:=e;omega
theorem Pst.rJ (hb:t.Base m) (h:Pst (t.at 3 0) m):Pst (t.rJ m) m:=by
 unfold Tb.rJ;split
 ·refine Pst.zB hb (h.move (t':=t.at 4 0) rfl (fun i hi=>wR (t0:=t.at 3 0) (a:=3) (b:=4) (nx:=0) hb.kd (by omega) (fun i hi=>?_) (fun i hi _=>?_) hi) (fun e=>by simp [Tb.at] at e)) (Nat.zero_le _)
  ·have:=oJ (hb.kd i hi);show (eAt t.ents i).key<=_\/_<=(eAt t.ents i).key;omega
  have:=oJ (hb.kd i hi);show (eAt t.ents i).key≠_;omega
 exact h
theorem Pst.set2 (hb:t.Base m) (h:Pst (t.at 2 n) m) (hn:n<=t.ents.length):Pst (t.set2 m n) m:=by
 have hge:=aIn hn 2;have hks:∀ i,i<t.ents.length->n<=i->i<nxt t.ents 2 n->(eAt t.ents i).key≠((2:Nat):Int):=fun i hi h1 h2 e=>by
  have:=oJ (hb.kd i hi);have:=vI (l:=t.ents) (k:=2) h1 h2;omega
 unfold Tb.set2;split
 ·exact h.move rfl (fun i hi=>wQ (t0:=t.at 2 n) hge hks hi) (fun _=>h.f rfl)
 rename_i h1;have h2:=mM (l:=t.ents) (k:=2) (n:=n);refine Pst.rJ hb (h.move (t':=t.at 3 0) rfl (fun i hi=>wR (t0:=t.at 2 n) (a:=2) (b:=3) (nx:=n) hb.kd (by omega) (fun i hi=>?_) (fun i hi h3=>hks i hi h3 (Nat.lt_of_lt_of_le (show i<t.ents.length from hi) (by omega))) hi) (fun e=>by simp [Tb.at] at e));have:=oJ (hb.kd i hi);show (eAt t.ents i).key<=_\/_<=(eAt t.ents i).key;omega
theorem Pst.set1 (hb:t.Base m) (h:Pst (t.at 1 n) m) (hn:n<=t.ents.length):Pst (t.set1 m n) m:=by
 have hge:=aIn hn 1;have hks:∀ i,i<t.ents.length->n<=i->i<nxt t.ents 1 n->(eAt t.ents i).key≠((1:Nat):Int):=fun i hi h1 h2 e=>by
  have:=oJ (hb.kd i hi);have:=vI (l:=t.ents) (k:=1) h1 h2;omega
 unfold Tb.set1;split
 ·exact h.move rfl (fun i hi=>wQ (t0:=t.at 1 n) hge hks hi) (fun e=>by simp [Tb.at] at e)
 rename_i h1;have h2:=mM (l:=t.ents) (k:=1) (n:=n);refine Pst.set2 (t:=t.find m) hb.find (h.move (t':=(t.find m).at 2 0) rfl (fun i hi=>wR (t0:=t.at 1 n) (a:=1) (b:=2) (nx:=n) hb.kd (by omega) (fun i hi=>?_) (fun i hi h3=>hks i hi h3 (Nat.lt_of_lt_of_le (show i<t.ents.length from hi) (by omega))) hi) (fun _ i hi hk hf=>?_)) (Nat.zero_le _)
 ·have:=oJ (hb.kd i hi);show (eAt t.ents i).key<=_\/_<=(eAt t.ents i).key;omega
 have hk2:(eAt t.ents i).kind=2:=hk;have hf2:(decide ((eAt t.ents i).kind=2) && m.isW (eAt t.ents i).tgt)=false:=hf;rw [hk2] at hf2;exact aJr (t:=t) hb hi hf2
theorem Pst.settle (hb:t.Base m) (h:Pst t m) (hn:t.nx<=t.ents.length) (h3:t.ph=3->t.nx=0):Pst (t.settle m) m:=by
 obtain ⟨ents,q,ph,nx,fd⟩:=t;unfold Tb.settle;split
 ·rename_i e;cases e;exact Pst.set1 hb h hn
 split
 ·rename_i e;cases e;exact Pst.set2 hb h hn
 split
 ·rename_i e;cases e;have h0:=h3 rfl;cases h0;exact Pst.rJ hb h
 split
 ·rename_i e;cases e;exact Pst.zB hb h hn
 exact h
theorem Pst.start (hb:t.Base m):Pst (t.at 1 0) m:=by
 refine ⟨fun i hi hp=>?_,fun e=>by simp [Tb.at] at e⟩;have h1:=oJ (hb.kd i hi);unfold Tb.past at hp;have h2:(t.at 1 0).ph=1:=rfl;have h3:(t.at 1 0).nx=0:=rfl;rw [h2,h3] at hp;have h4:(eAt (t.at 1 0).ents i).key=(eAt t.ents i).key:=rfl;omega
theorem vF {x:Int}:∀ y,m.col y≠0->(m.bH x).col y≠0:=fun y hy=>by
 rcases Mk.wE (m:=m) (x:=x) y with h|⟨_,_,h,_⟩
 ·rw [h];exact hy
 exact absurd h hy
theorem vY (hm:m.Ok):∀ y,m.col y≠0->m.step.2.2.col y≠0:=fun y hy=>by
 unfold Mk.step
 cases e:m.list with
 | nil=>exact hy
 | cons x l=>
  rcases Mk.aKp hm e y with ⟨h1,_⟩|⟨_,h1⟩|⟨_,h1,_⟩
  ·show (m.dV x).col y≠0;rw [h1];decide
  ·show (m.dV x).col y≠0;rw [h1];exact hy
  exact absurd h1 hy
theorem aIx {r:Int×Int×Hp}:∀ y,m.col y≠0->(m.made r).2.2.col y≠0:=fun y hy=>by
 unfold Mk.made;simp only;split
 ·show jM m.col r.1 2 y≠0
  by_cases e:y=r.1
  ·rw [e,bZ];decide
  rw [bG _ _ e];exact hy
 exact hy
theorem aKn (a b c:Int):∀ y,m.col y≠0->(m.store a b c).2.col y≠0:=fun y hy=>by
 unfold Mk.store;simp only;split
 ·exact vF _ (vF (m:=m.put _) _ hy)
 exact hy
theorem Pst.step (h:Pst t m) (hg:t.Good m) (hm:m.Ok) (hp:t.ph≠0):((t.step m).2.2.1=0->(t.step m).2.2.2.1.ph≠0/\Pst (t.step m).2.2.2.1 (t.step m).2.2.2.2)/\((t.step m).2.2.1≠0->(t.step m).2.2.2.1.ph=0/\(t.step m).2.2.2.1.All (t.step m).2.2.2.2/\(t.step m).2.2.2.2=m):=by
 have hs:=h.settle hg.b hg.nl hg.z3;have hst:=Tb.cZ (m:=m) (t:=t) (by omega) hg.p4;have hgs:=hg.settle hm.hf.ok;have hstep:=(hg.step hm).2.2.2 hp;refine ⟨fun h0=>⟨?_,?_⟩,fun h0=>?_⟩
 ·rcases hstep with ⟨_,h1,_⟩|⟨h1,_⟩
  ·omega
  omega
 ·unfold Tb.step at h0 ⊢;rw [if_neg hp] at h0 ⊢;simp only at h0 ⊢;generalize t.settle m=s at *
  by_cases h3:s.ph=3
  ·rw [if_pos h3] at h0 ⊢;exact (hs.mono (vY hm)).settle (hgs.b.marker (fun k hk=>by rw [Mk.pY];exact hk)) hgs.nl hgs.z3
  rw [if_neg h3] at h0 ⊢
  by_cases hl:s.ents.length<=s.nx
  ·rw [if_pos hl] at h0;exact absurd h0 (by show ¬ ((3:Int)=0);decide)
  rw [if_neg hl];have hi:s.nx<s.ents.length:=by omega
  have hgc:=hgs.clear hst hi h3 hm;refine Pst.settle hgc.b ?_ hgc.nl hgc.z3;have hkx:(eAt s.ents s.nx).key=(s.ph:Int):=by
   have hky:=oJ (hgs.b.kd s.nx hi);have hp1:=hst.p1;have hp4:=hgs.p4
   by_cases e1:s.ph=1\/s.ph=2
   ·have:=(hst.a e1).2;omega
   have e4:s.ph=4:=by omega
   have:=hst.d e4 hi;omega
  have hpast:∀ i,s.past s.ph (s.nx+1) i->i≠s.nx->s.past s.ph s.nx i:=fun i h1 h2=>by
   rcases h1 with h1|⟨h1,h3⟩
   ·exact .inl h1
   exact .inr ⟨h1,by omega⟩
  have key:∀ (yL:List En) (q':List Int) (m':Mk),yL.length=s.ents.length->(∀ j,j≠s.nx->eAt yL j=eAt s.ents j)->(eAt yL s.nx).kind=(eAt s.ents s.nx).kind->(eAt yL s.nx).fine m'->(∀ y,m.col y≠0->m'.col y≠0)->Pst ⟨yL,q',s.ph,s.nx+1,s.fd⟩ m':=fun yL q' m' h1 h2 h3 h4 h5=>by
   refine ⟨fun i hi hpa=>?_,fun e i hi hk hf=>?_⟩
   ·show (eAt yL i).fine m'
    by_cases e:i=s.nx
    ·rw [e];exact h4
    rw [h2 i e];refine (hs.p i (by rw [<-h1];exact hi) (hpast i ?_ e)).mono h5;have aRv:(eAt yL i).key<(s.ph:Int)\/((eAt yL i).key=(s.ph:Int)/\i<s.nx+1):=hpa;rw [h2 i e] at aRv;exact aRv
   show (eAt yL i).fine m';have hk2:(eAt yL i).kind=2:=hk
   by_cases e2:i=s.nx
   ·rw [e2];exact h4
   rw [h2 i e2] at hk2 ⊢;exact (hs.f e i (by rw [<-h1];exact hi) hk2 hf).mono h5
  have hoff:(eAt (s.ents.set s.nx (eAt s.ents s.nx).off) s.nx).kind=(eAt s.ents s.nx).kind:=by rw [aMf hi];rfl
  have aOE:∀ m':Mk,(eAt (s.ents.set s.nx (eAt s.ents s.nx).off) s.nx).fine m':=fun m'=>by rw [aMf hi];exact .inl rfl
  unfold Tb.clear;simp only
  by_cases e2:s.ph=2
  ·rw [if_pos e2];have hk2:(eAt s.ents s.nx).kind=2:=(hst.a (.inr e2)).2.trans (by rw [e2];rfl)
   by_cases hf:s.fd s.nx=true
   ·rw [if_pos hf];exact key _ _ _ (List.length_set ..) (aIm hi) hoff (aOE _) vF
   rw [if_neg hf];exact key s.ents s.q m rfl (fun _ _=>rfl) rfl (hs.f e2 _ hi hk2 (by cases hx:s.fd s.nx;rfl;exact absurd hx hf)) (fun _ x=>x)
  rw [if_neg e2]
  by_cases hw:m.isW (eAt s.ents s.nx).tgt=true
  ·rw [if_pos hw];exact key _ _ m (List.length_set ..) (aIm hi) hoff (aOE _) (fun _ x=>x)
  rw [if_neg hw];exact key s.ents s.q m rfl (fun _ _=>rfl) rfl (aJr hgs.b hi (by cases hx:m.isW (eAt s.ents s.nx).tgt;rfl;exact absurd hx hw)) (fun _ x=>x)
 unfold Tb.step at h0 ⊢;rw [if_neg hp] at h0 ⊢;simp only at h0 ⊢;generalize t.settle m=s at *
 by_cases h3:s.ph=3
 ·rw [if_pos h3] at h0;exact absurd rfl h0
 rw [if_neg h3] at h0 ⊢
 by_cases hl:s.ents.length<=s.nx
 ·rw [if_pos hl];refine ⟨rfl,fun i hi=>hs.p i hi ?_,rfl⟩;have hp1:=hst.p1;have hp4:=hgs.p4;have e4:s.ph=4:=by
   by_cases e1:s.ph=1\/s.ph=2
   ·have:=(hst.a e1).1;omega
   omega
  have hi2:i<s.ents.length:=hi;have hky:=oJ (hgs.b.kd i hi2);unfold Tb.past;omega
 rw [if_neg hl] at h0;exact absurd rfl h0
theorem Pst.begin (hg:t.Good m) (hm:m.Ok) (h0:t.ph=0) (hl:m.list=[]):(t.begin m).2.ph≠0/\Pst (t.begin m).2 m:=by
 have hbe:t.begin m=(0,(t.at 1 0).settle m):=by
  unfold Tb.begin;rw [if_neg (by intro h;rcases h with h|h;exact h h0;exact h hl)]
 rw [hbe];have hst:=Tb.cZ (t:=t.at 1 0) (m:=m) (Nat.le_refl 1) (by show 1<=4;omega);refine ⟨?_,(Pst.start hg.b).settle (hg.b.at _ _) (Nat.zero_le _) (fun _=>rfl)⟩;have:=hst.p1;show ((t.at 1 0).settle m).ph≠0;omega
end
def Hp.len (M:Hp) (h:Int):Int:=(M.type h).2.2.1
def Hp.bT (M:Hp) (h:Int):Nat->Hp
 | 0=>M
 | k+1=>if ((M.bT h k).isRef h (k:Int)).1=true then ((M.bT h k).set h (k:Int) 0).2 else M.bT h k
def Hp.blank (M:Hp) (h:Int):Hp:=M.bT h (M.len h).toNat
def Hp.dA (M:Hp) (l:List Int):Nat->Hp
 | 0=>M
 | k+1=>(M.dA l k).blank (gI l k)
structure Co where
 m:Mk
 t:Tb
 ph:Nat
 cr:Int
 rate:Int
 pages:Nat
 sw:List Int
 mv:Nat
def Co.new (pages:Nat) (rate:Int):Co:=⟨Mk.start (Hp.new pages),Tb.new,0,0,rate,pages,[],0⟩
def Co.oH (c:Co) (m:Mk):Co:={ c with m:=m }
def Co.dX (c:Co) (t:Tb):Co:={ c with t:=t }
def Co.mark (c:Co):Int×Co:=(1+c.m.M.len c.m.step.1,{ c with m:=c.m.step.2.2 })
def Co.gX (c:Co) (s:List Int):Int×Co:=(1,{ c with ph:=3,sw:=s,m:=c.m.put (c.m.M.dA s s.length) })
def Co.jJ (c:Co):Int×Co:=c.gX c.m.white
def Co.iU (c:Co):Int×Co:=(1,{ c with ph:=2,t:=(c.t.begin c.m).2 })
def Co.tail (c:Co):Int×Co:=if c.m.list=[] then c.jJ else c.mark
def Co.refs (c:Co):Int×Co:=
 if (c.t.step c.m).2.2.1=0 then (if (c.t.step c.m).1=3 then 1+c.m.M.len (c.t.step c.m).2.1 else 1,{ c with t:=(c.t.step c.m).2.2.2.1,m:=(c.t.step c.m).2.2.2.2 })
 else ({ c with t:=(c.t.step c.m).2.2.2.1,m:=(c.t.step c.m).2.2.2.2 }:Co).tail
def Co.free (c:Co):Int×Co:=match c.sw with
 | []=>(1,{ c with ph:=4,mv:=0 })
 | h :: r=>(1+((c.m.M.blocks h).1.length:Int),{ c with sw:=r,m:=c.m.put (c.m.M.release h).2 })
def Co.move (c:Co):Int×Co:=
 if c.mv=8*c.pages\/c.m.M.P.move.2.2.1≠0 then (1,{ c with ph:=0,cr:=0 })
 else (4+(bsz (c.m.M.P.class (c.m.M.P.move.1.tdiv 16)).1:Int),{ c with m:=c.m.put c.m.M.move.2.2,mv:=c.mv+1 })
def Co.step (c:Co):Int×Int×Co:=
 if c.ph=0 then (0,13,c)
 else if c.ph=1 then (if c.m.list=[] then (c.iU.1,0,c.iU.2) else (c.mark.1,0,c.mark.2))
 else if c.ph=2 then (c.refs.1,0,c.refs.2)
 else if c.ph=3 then (c.free.1,0,c.free.2)
 else (c.move.1,0,c.move.2)
def Co.steps:Nat->Co->Co|0,c=>c|k+1,c=>(Co.steps k c).step.2.2
def Co.costs:Nat->Co->Int|0,_=>0|k+1,c=>Co.costs k c+(Co.steps k c).step.1
def Co.pay (c:Co):Co:=({ c with cr:=c.cr - c.step.1 }:Co).step.2.2
def Co.stops (c:Co):Prop:=c.ph=0\/c.cr<c.step.1
def Co.pays:Nat->Co->Co|0,c=>c|k+1,c=>(Co.pays k c).pay
open Classical in
noncomputable def Co.aJT (c:Co):Nat:=if h:∃ i,(Co.steps i c).ph=0/\∀ j,j<i->(Co.steps j c).ph≠0 then Classical.choose h else 0
open Classical in
noncomputable def Co.gives (c:Co):Nat:=if h:∃ i,(Co.pays i c).stops/\∀ j,j<i->¬ (Co.pays j c).stops then Classical.choose h else 0
noncomputable def Co.finish (c:Co):Int×Int×Int×Co:=if c.ph=0 then (0,0,13,c) else ((c.aJT:Int),Co.costs c.aJT c,0,Co.steps c.aJT c)
def Co.more (c:Co) (n:Int):Co:={ c with cr:=c.cr+n }
noncomputable def Co.give (c:Co) (n:Int):Int×Co:=if c.ph=0 then (0,c) else (((c.more n).gives:Int),Co.pays (c.more n).gives (c.more n))
noncomputable def Co.jF (c:Co) (n:Int):Int×Int×Co:=if n<0\/10000<n then (0,1,c) else ((c.give n).1,0,(c.give n).2)
open Classical in
noncomputable def Co.begin (c:Co) (roots:List Int):Int×Co:=
 if 192<roots.length then (1,c) else if c.ph≠0 then (13,c) else if c.m.M.fG roots then (3,c)
 else (0,{ c with m:=(Mk.start c.m.M).bC roots,ph:=1,cr:=-1 - (roots.length:Int),mv:=0 })
def Co.hid (c:Co) (h:Int):Bool:=if c.ph=2 then c.m.isW h else decide (h∈c.sw)
def Co.bar (c:Co):Bool:=decide (c.ph=1\/c.ph=2)
def Co.newObj (c:Co) (k:Int) (l:List Bool):Int×Int×Co:=
 if c.bar then ((c.m.aH k l).1,(c.m.aH k l).2.1,{ c with m:=(c.m.aH k l).2.2 })
 else ((c.m.M.aH k l).1,(c.m.M.aH k l).2.1,{ c with m:=c.m.put (c.m.M.aH k l).2.2 })
def Co.gZ (c:Co) (k a n:Int):Int×Int×Co:=
 if c.bar then ((c.m.aG k a n).1,(c.m.aG k a n).2.1,{ c with m:=(c.m.aG k a n).2.2 })
 else ((c.m.M.aG k a n).1,(c.m.M.aG k a n).2.1,{ c with m:=c.m.put (c.m.M.aG k a n).2.2 })
noncomputable def Co.aH (c:Co) (k:Int) (l:List Bool):Int×Int×Co:=if k<0\/10<=k\/7<l.length then (0,1,c) else (c.give c.rate).2.newObj k l
def aAu (n:Int):Int:=if 7<n then 1+(n+7).tdiv 8 else 1
noncomputable def Co.aG (c:Co) (k a n:Int):Int×Int×Co:=
 if n<0\/48<n\/¬ ((k=3/\a=0)\/(k=4/\0<=a/\a<10)) then (0,1,c) else (c.give (c.rate*aAu n)).2.gZ k a n
def Co.get (c:Co) (h s:Int):Int×Int:=if c.hid h then (0,3) else c.m.M.get h s
def Co.store (c:Co) (h s v:Int):Int×Co:=
 if c.hid h=true\/((c.m.M.isRef h s).1=true/\c.hid v=true) then (3,c)
 else if c.bar then ((c.m.store h s v).1,{ c with m:=(c.m.store h s v).2 }) else ((c.m.M.set h s v).1,{ c with m:=c.m.put (c.m.M.set h s v).2 })
def Co.refer (c:Co) (k x g:Int):Int×Int×Co:=
 if c.ph=2 then (0,if k<1\/3<k then 1 else 13,c)
 else ((c.t.add c.m k (if c.hid x then 0 else x) g).1,(c.t.add c.m k (if c.hid x then 0 else x) g).2.1,{ c with t:=(c.t.add c.m k (if c.hid x then 0 else x) g).2.2 })
def Co.target (c:Co) (i:Int):Int×Int×Co:=
 if (c.t.target i).2≠0 then (0,(c.t.target i).2,c) else if c.hid (c.t.target i).1 then (0,0,c)
 else ((c.t.target i).1,0,if c.ph=1 then { c with m:=c.m.bH (c.t.target i).1 } else c)
def Co.take (c:Co):Int×Int×Co:=(c.t.take.1,c.t.take.2.1,{ c with t:=c.t.take.2.2 })
structure Co.Okc (c:Co):Prop where
 hf:c.m.M.OkF
 mo:c.ph=1\/c.ph=2->c.m.Ok
 nl:c.ph≠1->c.ph≠2->c.m.list=[]
 tg:c.t.Good c.m
 t0:c.ph≠2->c.t.ph=0
 p4:c.ph<=4
 sw:c.ph≠3->c.sw=[]
 su:∀ x,x∈c.sw->(c.m.M.ob x).isSome=true
 sn:c.sw.Nodup
 st:∀ i,i<c.t.ents.length->(eAt c.t.ents i).tgt∉c.sw
 pa:c.ph=2->c.t.ph≠0->Pst c.t c.m
 al:c.ph=2->c.t.ph=0->c.t.All c.m
 cr1 : -193<=c.cr
 c0:c.ph=0->c.cr=0
 rt:0<=c.rate/\c.rate<=100
 pg:1<=c.pages/\c.pages<=24
 mv:c.mv<=8*c.pages
structure Co.Ok (c:Co):Prop where
 k:c.Okc
 cr2:c.cr<=60
section
variable {M:Hp} {x:Int}
theorem aMn {k:Nat} (h:x∈M.aX k):(M.ob x).isSome=true/\1<=x/\x<=(k:Int):=by
 induction k with
 | zero=>cases h
 | succ k ih=>
  unfold Hp.aX at h;rcases List.mem_append.1 h with h|h
  ·have:=ih h;exact ⟨this.1,this.2.1,by omega⟩
  split at h
  ·rename_i e;have e2:x=(k:Int)+1:=by simpa using h
   rw [e2];exact ⟨e,by omega,by omega⟩
  cases h
theorem aKZ (M:Hp) (k:Nat):(M.aX k).Nodup:=by
 induction k with
 | zero=>exact List.nodup_nil
 | succ k ih=>
  unfold Hp.aX;rw [List.nodup_append];refine ⟨ih,by split<;>simp,fun a ha b hb e=>?_⟩
  have h1:=aMn ha;split at hb
  ·have:b=(k:Int)+1:=by simpa using hb
   omega
  cases hb
theorem aQg {k:Nat} (h:(M.ob x).isSome=true) (h1:1<=x) (h2:x<=(k:Int)):x∈M.aX k:=by
 induction k with
 | zero=>omega
 | succ k ih=>
  unfold Hp.aX
  by_cases e:x=(k:Int)+1
  ·rw [<-e,if_pos h];simp
  exact List.mem_append_left _ (ih (by omega))
theorem Hp.Ok.aMh (hk:M.Ok):x∈M.handles↔(M.ob x).isSome=true:=
 ⟨fun h=>(aMn h).1,fun h=>aQg h (hk.inR h).1 (hk.inR h).2⟩
theorem Mk.aCl {m:Mk} (hk:m.M.Ok):x∈m.white↔(m.M.ob x).isSome=true/\m.col x=0:=by
 unfold Mk.white;rw [List.mem_filter,decide_eq_true_eq,hk.aMh]
theorem Mk.aDn (m:Mk):m.white.Nodup:=(aKZ m.M 192).filter _
def Hp.Same (M N:Hp):Prop:=∀ k,(N.ob k).isSome=(M.ob k).isSome
theorem Hp.Same.refl (M:Hp):M.Same M:=fun _=>rfl
theorem Hp.Same.trans {M N O:Hp} (h:M.Same N) (h2:N.Same O):M.Same O:=fun k=>(h2 k).trans (h k)
theorem Hp.aP (M:Hp) (h s v:Int):M.Same (M.set h s v).2:=fun k=>M.nN h s v k
theorem aBw (hk:M.OkF) (h:Int) (k:Nat):(M.bT h k).OkF/\M.Same (M.bT h k):=by
 induction k with
 | zero=>exact ⟨hk,.refl M⟩
 | succ k ih=>
  unfold Hp.bT;split
  ·exact ⟨ih.1.set _ _ _,ih.2.trans (Hp.aP _ _ _ _)⟩
  exact ih
theorem uG (hk:M.OkF) (l:List Int) (k:Nat):(M.dA l k).OkF/\M.Same (M.dA l k):=by
 induction k with
 | zero=>exact ⟨hk,.refl M⟩
 | succ k ih=>
  have:=aBw ih.1 (gI l k) ((M.dA l k).len (gI l k)).toNat
  exact ⟨this.1,ih.2.trans this.2⟩
theorem aIu (M:Hp):M.Same M.move.2.2:=fun k=>by
 unfold Hp.move;split
 ·split
  ·rename_i o ho _;unfold Hp.fE;show (dX M.ob _ _ k).isSome=_
   by_cases e:k=(M.owner M.P.move.1:Int)+1
   ·rw [e,aZ,ho];rfl
   rw [bD _ _ e]
  rfl
 rfl
theorem qC (M:Hp) {h k:Int} (e:k≠h):(M.release h).2.ob k=M.ob k:=by
 unfold Hp.release;split
 ·rfl
 split
 ·rfl
 show dX M.ob h none k=_;rw [bD _ _ e]
theorem eX (hk:M.Ok) (h:Int):0<=M.len h/\M.len h<=48:=by
 unfold Hp.len Hp.type;split
 ·exact ⟨Int.le_refl 0,by decide⟩
 rename_i o ho;have:=(hk.th h o ho).le;show 0<=(o.slots.length:Int)/\(o.slots.length:Int)<=48;omega
theorem jE (hk:M.Ok) (h:Int):(M.blocks h).1.length<=7:=by
 unfold Hp.blocks;split
 ·exact Nat.zero_le _
 rename_i o ho;exact (hk.aBo ho).2.1
end
section
variable {c:Co}
theorem Tb.Good.us2 {t:Tb} {m m':Mk} (h:t.Good m) (hu:∀ i,i<t.ents.length->(eAt t.ents i).tgt≠0->(m'.M.ob (eAt t.ents i).tgt).isSome=true):t.Good m':=
 ⟨⟨h.b.le,h.b.kd,hu,h.b.ql⟩,h.p4,h.nl,h.z3,h.fd⟩
theorem Co.Okc.mark (h:c.Okc) (hp:c.ph=1\/c.ph=2):c.mark.2.Okc:=by
 have hm:=h.mo hp;have hM:c.m.step.2.2.M=c.m.M:=Mk.pY;refine ⟨by show c.m.step.2.2.M.OkF;rw [hM];exact h.hf,fun _=>hm.step,fun h1 h2=>absurd hp (by intro h3;rcases h3 with h3|h3;exact h1 h3;exact h2 h3),h.tg.marker (fun k hk=>by show (c.m.step.2.2.M.ob k).isSome=true;rw [hM];exact hk),h.t0,h.p4,h.sw,fun x hx=>by show (c.m.step.2.2.M.ob x).isSome=true;rw [hM];exact h.su x hx,h.sn,h.st,fun e e2=>(h.pa e e2).mono (vY hm),fun e e2=>(h.al e e2).mono (vY hm),h.cr1,h.c0,h.rt,h.pg,h.mv⟩
theorem Co.Okc.iU (h:c.Okc) (hp:c.ph=1) (hl:c.m.list=[]):c.iU.2.Okc:=by
 have hm:=h.mo (.inl hp);have ht:=h.t0 (by omega);have hb:=Pst.begin h.tg hm ht hl;refine ⟨h.hf,fun _=>hm,fun _ h2=>absurd rfl h2,h.tg.begin hm.hf.ok,fun h2=>absurd rfl h2,by show 2<=4;omega,fun _=>h.sw (by omega),h.su,h.sn,fun i hi=>?_,fun _ _=>hb.2,fun _ e=>absurd e hb.1,h.cr1,fun e=>(by cases e),h.rt,h.pg,h.mv⟩;show _∉c.sw;rw [h.sw (by omega)];simp
theorem Co.aFz (c:Co) (s:List Int):(c.gX s).2.cr=c.cr:=rfl
theorem Co.Okc.gX (h:c.Okc) (hp:c.ph=2) (ht:c.t.ph=0) (hl:c.m.list=[]) {s:List Int} (hs:∀ x,x∈s->(c.m.M.ob x).isSome=true/\c.m.col x=0) (hn:s.Nodup):(c.gX s).2.Okc:=by
 have hm:=h.mo (.inr hp);obtain ⟨h1,h2⟩:=uG h.hf s s.length;refine ⟨h1,fun e=>(by rcases e with e|e<;>cases e),fun _ _=>hl,h.tg.marker (fun k hk=>by show ((c.m.M.dA s s.length).ob k).isSome=true;rw [h2 k];exact hk),fun _=>ht,by show 3<=4;omega,fun e=>absurd rfl e,fun x hx=>by show ((c.m.M.dA s s.length).ob x).isSome=true;rw [h2 x];exact (hs x hx).1,hn,fun i hi hx=>?_,fun e=>(by cases e),fun e=>(by cases e),h.cr1,fun e=>(by cases e),h.rt,h.pg,h.mv⟩
 obtain ⟨h3,h4⟩:=hs _ hx;rcases h.al hp ht i hi with h5|h5
 ·have:=(h.hf.ok.inR h3).1;have h6:(eAt (c.gX s).2.t.ents i).tgt=0:=h5;omega
 exact h5 h4
theorem Co.Okc.jJ (h:c.Okc) (hp:c.ph=2) (ht:c.t.ph=0) (hl:c.m.list=[]):c.jJ.2.Okc:=by
 unfold Co.jJ;exact h.gX hp ht hl (fun x hx=>(Mk.aCl h.hf.ok).1 hx) c.m.aDn
theorem Co.Okc.tail (h:c.Okc) (hp:c.ph=2) (ht:c.t.ph=0):c.tail.2.Okc:=by
 unfold Co.tail;split
 ·rename_i hl;exact h.jJ hp ht hl
 exact h.mark (.inr hp)
def Co.stepT (c:Co):Co:={ c with t:=(c.t.step c.m).2.2.2.1,m:=(c.t.step c.m).2.2.2.2 }
theorem Co.Okc.stepT (h:c.Okc) (hp:c.ph=2):c.stepT.Okc/\((c.t.step c.m).2.2.1≠0->c.stepT.t.ph=0)/\((c.t.step c.m).2.2.1=0->c.stepT.t.ph≠0):=by
 have hm:=h.mo (.inr hp);obtain ⟨g1,g2,g3,_⟩:=h.tg.step hm;have hsw:=h.sw (by omega);have base:∀ (hpa:c.stepT.t.ph≠0->Pst c.stepT.t c.stepT.m) (hal:c.stepT.t.ph=0->c.stepT.t.All c.stepT.m),c.stepT.Okc:=fun hpa hal=>
  ⟨by show (c.t.step c.m).2.2.2.2.M.OkF;rw [g3];exact h.hf,fun _=>g2,fun _ h2=>absurd hp h2,g1,fun h2=>absurd hp h2,h.p4,h.sw,fun x hx=>by show ((c.t.step c.m).2.2.2.2.M.ob x).isSome=true;rw [g3];exact h.su x hx,h.sn,fun i hi=>by show _∉c.sw;rw [hsw];simp,fun _ e=>hpa e,fun _ e=>hal e,h.cr1,h.c0,h.rt,h.pg,h.mv⟩
 by_cases h0:c.t.ph=0
 ·have hs:c.t.step c.m=(0,0,13,c.t,c.m):=by unfold Tb.step;rw [if_pos h0]
  have ht:c.stepT.t=c.t:=by show (c.t.step c.m).2.2.2.1=_;rw [hs]
  have hm2:c.stepT.m=c.m:=by show (c.t.step c.m).2.2.2.2=_;rw [hs]
  refine ⟨base (fun e=>absurd (by rw [ht];exact h0) e) (fun _=>by rw [ht,hm2];exact h.al hp h0),fun _=>by rw [ht];exact h0,fun e=>?_⟩;rw [hs] at e;cases e
 obtain ⟨s1,s2⟩:=(h.pa hp h0).step h.tg hm h0
 by_cases e0:(c.t.step c.m).2.2.1=0
 ·obtain ⟨s3,s4⟩:=s1 e0;exact ⟨base (fun _=>s4) (fun e=>absurd e s3),fun e=>absurd e0 e,fun _=>s3⟩
 obtain ⟨s3,s4,s5⟩:=s2 e0;exact ⟨base (fun e=>absurd s3 e) (fun _=>s4),fun _=>s3,fun e=>absurd e e0⟩
theorem Co.iI (c:Co):c.refs=if (c.t.step c.m).2.2.1=0 then (if (c.t.step c.m).1=3 then 1+c.m.M.len (c.t.step c.m).2.1 else 1,c.stepT) else c.stepT.tail:=rfl
theorem Co.Okc.refs (h:c.Okc) (hp:c.ph=2):c.refs.2.Okc:=by
 obtain ⟨h1,h2,h3⟩:=h.stepT hp;rw [Co.iI];split
 ·exact h1
 rename_i e;exact h1.tail hp (h2 e)
theorem Co.Okc.free (h:c.Okc) (hp:c.ph=3):c.free.2.Okc:=by
 have ht:=h.t0 (by omega);unfold Co.free
 cases e:c.sw with
 | nil=>exact ⟨h.hf,fun e=>(by rcases e with e|e<;>cases e),fun _ _=>h.nl (by omega) (by omega),h.tg,fun _=>ht,Nat.le_refl 4,fun _=>rfl,fun x hx=>(by cases hx),List.nodup_nil,fun i hi hx=>(by cases hx),fun e=>by (cases e),fun e=>by (cases e),h.cr1,fun e=>by (cases e),h.rt,h.pg,Nat.zero_le _⟩
 | cons x r=>
  have hn:=h.sn;rw [e] at hn;obtain ⟨hn1,hn2⟩:=List.nodup_cons.1 hn;have hx:∀ y,y∈r->y≠x:=fun y hy e2=>hn1 (by rw [<-e2];exact hy);refine ⟨h.hf.release x,fun e=>by have e2:c.ph=1\/c.ph=2:=e;omega,h.nl,h.tg.us2 (fun i hi hz=>?_),h.t0,h.p4,fun e2=>absurd hp e2,fun y hy=>?_,hn2,fun i hi hy=>?_,fun e2=>by have e3:c.ph=2:=e2;omega,fun e2=>by have e3:c.ph=2:=e2;omega,h.cr1,h.c0,h.rt,h.pg,h.mv⟩
  ·show ((c.m.M.release x).2.ob (eAt c.t.ents i).tgt).isSome=true;rw [qC _ (fun e2=>h.st i hi (by rw [e,e2];exact List.mem_cons_self))];exact h.tg.b.us i hi hz
  ·show ((c.m.M.release x).2.ob y).isSome=true;rw [qC _ (hx y hy)];exact h.su y (by rw [e];exact List.mem_cons_of_mem _ hy)
  exact h.st i hi (by rw [e];exact List.mem_cons_of_mem _ hy)
theorem Co.Okc.heap (h:c.Okc) (hp:¬ (c.ph=1\/c.ph=2)) {M:Hp} (hM:M.OkF) (hu:∀ k,(c.m.M.ob k).isSome=true->(M.ob k).isSome=true):({ c with m:=c.m.put M }:Co).Okc:=
 ⟨hM,fun e=>absurd e hp,h.nl,h.tg.marker hu,h.t0,h.p4,h.sw,fun x hx=>hu x (h.su x hx),h.sn,h.st,fun e=>absurd (.inr e) hp,fun e=>absurd (.inr e) hp,h.cr1,h.c0,h.rt,h.pg,h.mv⟩
theorem Co.Okc.marker (h:c.Okc) (hp:c.ph=1\/c.ph=2) {m:Mk} (hm:m.Ok) (hu:∀ k,(c.m.M.ob k).isSome=true->(m.M.ob k).isSome=true) (hc:∀ k,c.m.col k≠0->m.col k≠0):({ c with m:=m }:Co).Okc:=
 ⟨hm.hf,fun _=>hm,fun h1 h2=>absurd hp (by intro h3;rcases h3 with h3|h3;exact h1 h3;exact h2 h3),h.tg.marker hu,h.t0,h.p4,h.sw,fun x hx=>hu x (h.su x hx),h.sn,h.st,fun e e2=>(h.pa e e2).mono hc,fun e e2=>(h.al e e2).mono hc,h.cr1,h.c0,h.rt,h.pg,h.mv⟩
theorem Co.Okc.move (h:c.Okc) (hp:c.ph=4):c.move.2.Okc:=by
 have ht:=h.t0 (by omega);unfold Co.move;split
 ·exact ⟨h.hf,fun e=>(by rcases e with e|e<;>cases e),fun _ _=>h.nl (by omega) (by omega),h.tg,fun _=>ht,Nat.zero_le _,fun _=>h.sw (by omega),h.su,h.sn,h.st,fun e=>by (cases e),fun e=>by (cases e),by show (-193:Int)<=0;omega,fun _=>rfl,h.rt,h.pg,h.mv⟩
 rename_i hc;have h1:=h.heap (by omega) h.hf.move (fun k hk=>by rw [aIu];exact hk);exact ⟨h1.hf,h1.mo,h1.nl,h1.tg,h1.t0,h1.p4,h1.sw,h1.su,h1.sn,h1.st,h1.pa,h1.al,h1.cr1,h1.c0,h1.rt,h1.pg,by have h2:=h.mv;have h3:c.mv≠8*c.pages:=fun e=>hc (.inl e);show c.mv+1<=8*c.pages;omega⟩
theorem Co.Okc.step (h:c.Okc):c.step.2.2.Okc:=by
 unfold Co.step
 by_cases h0:c.ph=0
 ·rw [if_pos h0];exact h
 rw [if_neg h0]
 by_cases h1:c.ph=1
 ·rw [if_pos h1]
  by_cases hl:c.m.list=[]
  ·rw [if_pos hl];exact h.iU h1 hl
  rw [if_neg hl];exact h.mark (.inl h1)
 rw [if_neg h1]
 by_cases h2:c.ph=2
 ·rw [if_pos h2];exact h.refs h2
 rw [if_neg h2]
 by_cases h3:c.ph=3
 ·rw [if_pos h3];exact h.free h3
 rw [if_neg h3];exact h.move (by have:=h.p4;omega)
theorem Co.Okc.aFf (h:c.Okc) (hp:c.ph≠0) {n:Int} (hn : -193<=n):({ c with cr:=n }:Co).Okc:=
 ⟨h.hf,h.mo,h.nl,h.tg,h.t0,h.p4,h.sw,h.su,h.sn,h.st,h.pa,h.al,hn,fun e=>absurd e hp,h.rt,h.pg,h.mv⟩
theorem Co.aHB (c:Co):c.step.2.2.cr=c.cr\/(c.step.2.2.ph=0/\c.step.2.2.cr=0):=by
 unfold Co.step
 by_cases h0:c.ph=0
 ·rw [if_pos h0];exact .inl rfl
 rw [if_neg h0]
 by_cases h1:c.ph=1
 ·rw [if_pos h1]
  by_cases hl:c.m.list=[]
  ·rw [if_pos hl];exact .inl rfl
  rw [if_neg hl];exact .inl rfl
 rw [if_neg h1]
 by_cases h2:c.ph=2
 ·rw [if_pos h2];show c.refs.2.cr=c.cr\/_;rw [Co.iI];split
  ·exact .inl rfl
  unfold Co.tail;split
  ·unfold Co.jJ;exact .inl (Co.aFz _ _)
  exact .inl rfl
 rw [if_neg h2]
 by_cases h3:c.ph=3
 ·rw [if_pos h3];show c.free.2.cr=c.cr\/_;unfold Co.free;split<;>exact .inl rfl
 rw [if_neg h3];show c.move.2.cr=c.cr\/(c.move.2.ph=0/\c.move.2.cr=0);unfold Co.move;split
 ·exact .inr ⟨rfl,rfl⟩
 exact .inl rfl
theorem Co.Ok.step (h:c.Ok):c.step.2.2.Ok:=⟨h.k.step,by rcases c.aHB with h1|⟨_,h1⟩;rw [h1];exact h.cr2;rw [h1];decide⟩
theorem Co.Ok.steps (h:c.Ok):∀ k,(Co.steps k c).Ok
 | 0=>h
 | k+1=>(Co.Ok.steps h k).step
theorem aJE {k:Int} (h:k<=2):2<=bsz k/\bsz k<=8:=by
 unfold bsz;have h1:k.toNat=0\/k.toNat=1\/k.toNat=2:=by omega
 rcases h1 with h1|h1|h1<;>rw [h1]<;>decide
theorem aBm {P:Pl} (hk:P.ok) (i:Int):(P.class i).1<=2:=by
 unfold Pl.class;split
 ·decide
 rename_i h;have:=(hk i.toNat (by omega)).cls;show (P.pg i.toNat).cls<=2;rcases this with h1|h1|h1|h1<;>omega
theorem Co.aHz (h:c.Okc):1<=c.tail.1/\c.tail.1<=49:=by
 unfold Co.tail;split
 ·exact ⟨Int.le_refl 1,by show (1:Int)<=49;decide⟩
 have:=eX h.hf.ok c.m.step.1;show 1<=1+c.m.M.len c.m.step.1/\1+c.m.M.len c.m.step.1<=49;omega
theorem Co.Okc.cost (h:c.Okc) (hp:c.ph≠0):1<=c.step.1/\c.step.1<=60/\c.step.2.1=0:=by
 unfold Co.step;rw [if_neg hp]
 by_cases h1:c.ph=1
 ·rw [if_pos h1]
  by_cases hl:c.m.list=[]
  ·rw [if_pos hl];exact ⟨Int.le_refl 1,by show (1:Int)<=60;decide,rfl⟩
  rw [if_neg hl];have:=eX h.hf.ok c.m.step.1;show 1<=1+c.m.M.len c.m.step.1/\1+c.m.M.len c.m.step.1<=60/\_;exact ⟨by omega,by omega,rfl⟩
 rw [if_neg h1]
 by_cases h2:c.ph=2
 ·rw [if_pos h2];show 1<=c.refs.1/\c.refs.1<=60/\(0:Int)=0;obtain ⟨k1,k2,_⟩:=h.stepT h2;rw [Co.iI];split
  ·have hl:=eX h.hf.ok (c.t.step c.m).2.1;generalize c.m.M.len (c.t.step c.m).2.1=n at *
   by_cases e3:(c.t.step c.m).1=3
   ·rw [if_pos e3];show 1<=1+n/\1+n<=60/\_;exact ⟨by omega,by omega,rfl⟩
   rw [if_neg e3];exact ⟨Int.le_refl 1,by show (1:Int)<=60;decide,rfl⟩
  have:=Co.aHz k1;exact ⟨this.1,by omega,rfl⟩
 rw [if_neg h2]
 by_cases h3:c.ph=3
 ·rw [if_pos h3];show 1<=c.free.1/\c.free.1<=60/\(0:Int)=0;unfold Co.free;split
  ·exact ⟨Int.le_refl 1,by show (1:Int)<=60;decide,rfl⟩
  rename_i x r e;have:=jE h.hf.ok x;show 1<=1+((c.m.M.blocks x).1.length:Int)/\1+((c.m.M.blocks x).1.length:Int)<=60/\_;exact ⟨by omega,by omega,rfl⟩
 rw [if_neg h3];show 1<=c.move.1/\c.move.1<=60/\(0:Int)=0;unfold Co.move;split
 ·exact ⟨Int.le_refl 1,by show (1:Int)<=60;decide,rfl⟩
 have:=aJE (aBm h.hf.ok.p (c.m.M.P.move.1.tdiv 16));show 1<=4+(bsz _:Int)/\4+(bsz _:Int)<=60/\_;exact ⟨by omega,by omega,rfl⟩
theorem Co.lW (hp:c.ph=0):c.step=(0,13,c):=by unfold Co.step;rw [if_pos hp]
end
end Go.Proofs.YthflghdaejbdkaaGreat
