/- Lemmas of this claim. -/
import Derived.Test.YthflghdaejbdkaaGreatXcCyBnd
import Derived.Test.YthflghdaejbdkaaGreatXcCyM
import Derived.Test.YthflghdaejbdkaaGreatXcCyStar
namespace Go.Proofs.YthflghdaejbdkaaGreat
open _root_.Go.Proofs.Tryz (prog)
set_option linter.unusedVariables false
set_option maxRecDepth 100000
theorem aNe (t:Tb) (m:Mk) (i:Nat):(t.clear m i).1.ents.length=t.ents.length:=by
 unfold Tb.clear;simp only;split
 ·split
  ·show (t.ents.set _ _).length=_;rw [List.length_set]
  rfl
 split
 ·show (t.ents.set _ _).length=_;rw [List.length_set]
 rfl
theorem aOc (t:Tb) (m:Mk):(t.step m).2.2.2.1.ents.length=t.ents.length:=by
 unfold Tb.step;split
 ·rfl
 simp only;split
 ·show ((t.settle m).settle _).ents.length=_;rw [Tb.gU.1,Tb.gU.1]
 split
 ·show (t.settle m).ents.length=_;rw [Tb.gU.1]
 show ((((t.settle m).clear m (t.settle m).nx).1.at _ _).settle _).ents.length=_;rw [Tb.gU.1];show ((t.settle m).clear m (t.settle m).nx).1.ents.length=_;rw [aNe,Tb.gU.1]
structure Kp (c d:Co):Prop where
 pg:d.pages=c.pages
 rt:d.rate=c.rate
 el:d.t.ents.length=c.t.ents.length
variable {c d e:Co}
theorem Kp.refl (c:Co):Kp c c:=⟨rfl,rfl,rfl⟩
theorem Kp.trans (h:Kp c d) (y:Kp d e):Kp c e:=⟨y.pg.trans h.pg,y.rt.trans h.rt,y.el.trans h.el⟩
theorem Kp.tail (c:Co):Kp c c.tail.2:=by
 unfold Co.tail;split
 ·unfold Co.gZ;generalize c.m.white=s;exact ⟨rfl,rfl,rfl⟩
 exact ⟨rfl,rfl,rfl⟩
theorem Kp.stepT (c:Co):Kp c c.stepT:=⟨rfl,rfl,aOc c.t c.m⟩
theorem Kp.step (c:Co):Kp c c.step.2.2:=by
 unfold Co.step;split
 ·exact Kp.refl c
 split
 ·split
  ·refine ⟨rfl,rfl,?_⟩;show (c.t.begin c.m).2.ents.length=_;unfold Tb.begin;split
   ·rfl
   show ((c.t.at 1 0).settle c.m).ents.length=_;rw [Tb.gU.1];rfl
  exact ⟨rfl,rfl,rfl⟩
 split
 ·show Kp c c.refs.2;rw [Co.eY];split
  ·exact Kp.stepT c
  exact (Kp.stepT c).trans (Kp.tail _)
 split
 ·show Kp c c.free.2;unfold Co.free;split<;>exact ⟨rfl,rfl,rfl⟩
 show Kp c c.move.2;unfold Co.move;split<;>exact ⟨rfl,rfl,rfl⟩
theorem Kp.steps (c:Co):∀ k,Kp c (Co.steps k c)
 | 0=>Kp.refl c
 | k+1=>(Kp.steps c k).trans (Kp.step _)
theorem Kp.pay (c:Co):Kp c c.pay:=(show Kp c { c with cr:=c.cr - c.step.1 } from ⟨rfl,rfl,rfl⟩).trans (Kp.step _)
theorem Kp.pays (c:Co):∀ k,Kp c (Co.pays k c)
 | 0=>Kp.refl c
 | k+1=>(Kp.pays c k).trans (Kp.pay _)
theorem Kp.give (c:Co) (n:Int):Kp c (c.give n).2:=by
 unfold Co.give;split
 ·exact Kp.refl c
 exact (show Kp c (c.more n) from ⟨rfl,rfl,rfl⟩).trans (Kp.pays _ _)
theorem Kp.fZ (c:Co) (n:Int):Kp c (c.fZ n).2.2:=by
 unfold Co.fZ;split
 ·exact Kp.refl c
 exact Kp.give c n
theorem Kp.finish (c:Co):Kp c c.finish.2.2.2:=by
 unfold Co.finish;split
 ·exact Kp.refl c
 exact Kp.steps c _
theorem Kp.newObj (c:Co) (k:Int) (l:List Bool):Kp c (c.newObj k l).2.2:=by
 unfold Co.newObj;split<;>exact ⟨rfl,rfl,rfl⟩
theorem Kp.dJ (c:Co) (k a n:Int):Kp c (c.dJ k a n).2.2:=by
 unfold Co.dJ;split<;>exact ⟨rfl,rfl,rfl⟩
theorem Kp.aH (c:Co) (k:Int) (l:List Bool):Kp c (c.aH k l).2.2:=by
 unfold Co.aH;split
 ·exact Kp.refl c
 exact (Kp.give c _).trans (Kp.newObj _ k l)
theorem Kp.aG (c:Co) (k a n:Int):Kp c (c.aG k a n).2.2:=by
 unfold Co.aG;split
 ·exact Kp.refl c
 exact (Kp.give c _).trans (Kp.dJ _ k a n)
theorem Kp.store (c:Co) (a s v:Int):Kp c (c.store a s v).2:=by
 unfold Co.store;split
 ·exact Kp.refl c
 split<;>exact ⟨rfl,rfl,rfl⟩
theorem Kp.target (c:Co) (i:Int):Kp c (c.target i).2.2:=by
 unfold Co.target;split
 ·exact Kp.refl c
 split
 ·exact Kp.refl c
 show Kp c (if c.ph=1 then _ else c);split<;>exact ⟨rfl,rfl,rfl⟩
theorem Kp.take (c:Co):Kp c c.take.2.2:=⟨rfl,rfl,congrArg List.length (xB c.t).1⟩
theorem Kp.begin (c:Co) (l:List Int):Kp c (c.begin l).2:=by
 unfold Co.begin;split
 ·exact Kp.refl c
 split
 ·exact Kp.refl c
 split<;>exact ⟨rfl,rfl,rfl⟩
theorem aMb (c:Co) (k x g:Int):(c.refer k x g).2.2.pages=c.pages/\(c.refer k x g).2.2.rate=c.rate/\(c.refer k x g).2.2.t.ents.length<=c.t.ents.length+1:=by
 unfold Co.refer;split
 ·exact ⟨rfl,rfl,Nat.le_succ _⟩
 refine ⟨rfl,rfl,?_⟩;show (c.t.add c.m k _ g).2.2.ents.length<=_;generalize (if c.hid x then 0 else x:Int)=y;unfold Tb.add;split
 ·exact Nat.le_succ _
 split
 ·exact Nat.le_succ _
 split
 ·exact Nat.le_succ _
 split
 ·exact Nat.le_succ _
 show (c.t.ents ++ [_]).length<=_;rw [List.length_append];exact Nat.le_refl _
theorem aKJ (c:Co) (d a x y:Int):(c.deed d a x y).pages=c.pages/\(c.deed d a x y).rate=c.rate/\(c.deed d a x y).t.ents.length<=c.t.ents.length+if d=8 then 1 else 0:=by
 have z:∀ e:Co,Kp c e->e.pages=c.pages/\e.rate=c.rate/\e.t.ents.length<=c.t.ents.length+if d=8 then 1 else 0:=fun e h=>⟨h.pg,h.rt,by have:=h.el;omega⟩;unfold Co.deed;split;exact z _ (Kp.aH _ _ _);split;exact z _ (Kp.aG _ _ _ _);split;exact z _ (Kp.store _ _ _ _);split;exact z _ (Kp.step _);split;exact z _ (Kp.fZ _ _);split;exact z _ (Kp.finish _);split;exact z _ (Kp.begin _ _);split;exact z _ (Kp.refl _);split
 ·exact aMb _ _ _ _
 have h0:∀ e:Co,Kp c e->e.pages=c.pages/\e.rate=c.rate/\e.t.ents.length<=c.t.ents.length+0:=fun e h=>⟨h.pg,h.rt,by have:=h.el;omega⟩;split;exact h0 _ (Kp.target _ _);exact h0 _ (Kp.take _)
theorem Co.Pn.deed (h:c.Pn) (z:c.Okc) (d a x y:Int):(c.deed d a x y).Pn:=by
 unfold Co.deed;split;exact h.aH z _ _;split;exact h.aG z _ _ _;split;exact h.store _ _ _;split;exact h.step z;split;exact h.fZ z _;split;exact h.finish z;split;exact h.begin _;split;exact h;split;exact h.refer _ _ _;split;exact h.target _;exact h.take
def aAs (f:Nat->Nat->Int):Nat->Nat
 | 0=>0
 | k+1=>aAs f k+if f k 0=8 then 1 else 0
structure Std (n:Nat) (rate:Int) (k:Nat) (c:Co):Prop where
 ok:c.Ok
 pn:c.Pn
 pg:c.pages=n
 rt:c.rate=rate
 el:c.t.ents.length<=k
theorem Std.new (n:Nat) (r:Int) (z:1<=n) (y:n<=24) (d:0<=r/\r<=100):Std n r 0 (Co.new n r):=⟨Co.Ok.new z y d,Co.Pn.new n r,rfl,rfl,Nat.le_refl _⟩
variable {n:Nat} {rate:Int} {f:Nat->Nat->Int} {k:Nat}
theorem Std.deed (h:Std n rate (aAs f k) c) (a x y:Int):Std n rate (aAs f (k+1)) (c.deed (f k 0) a x y):=by
 obtain ⟨z,d,e⟩:=aKJ c (f k 0) a x y;refine ⟨h.ok.deed _ _ _ _,h.pn.deed h.ok.k _ _ _ _,z.trans h.pg,d.trans h.rt,?_⟩;have:=h.el;show _<=aAs f k+_;omega
theorem Std.finish (h:Std n rate k c):Std n rate k c.finish.2.2.2/\c.finish.2.2.2.ph=0:=by
 have y:=Kp.finish c;exact ⟨⟨h.ok.finish.1,h.pn.finish h.ok.k,y.pg.trans h.pg,y.rt.trans h.rt,by rw [y.el];exact h.el⟩,h.ok.finish.2⟩
end Go.Proofs.YthflghdaejbdkaaGreat
namespace Go.Proofs.YthflghdaejbdkaaGreat
open _root_.Go.Proofs.Tryz (prog)
open Go.RowKit Go.Maps
set_option maxHeartbeats 12800000
set_option maxRecDepth 100000
set_option linter.unusedVariables false
section
variable {w0 w:World} {l:List Asn} {b:Nat} {c:Co} {i:Nat}
theorem GoA.stage (z:Fam w0 w l) (d:l[i]?=some (GoA b c)):w.cell? ⟨b,3,none⟩=some (.int .i64 (c.ph:Int)):=by
 obtain ⟨x,hx,y⟩:=GoA.open z d;exact (bF.cells y).2.2.2.1
theorem GoA.lives (d:Fam w0 w l) (hi:l[i]?=some (GoA b c)):∃ q,w.cell? ⟨b,0,none⟩=some (.pointer (some ⟨q,0,none⟩))/\∀ y:Int,Calls prog 58 #[.pointer (some ⟨q,0,none⟩),.int .i64 y] w (fun e w'=>e=.returned (.bool (c.m.M.ob y).isSome)/\Only [] w w'):=by
 obtain ⟨x,hx,z⟩:=GoA.open d hi;obtain ⟨hk,L,X,hg⟩:=G5.gh z;exact ⟨x.q,(bF.cells z).1,fun y=>jP w hg hk y⟩
theorem aKN (y:Fam w0 w l) (z:l[i]?=some (CoA b c)) (d:c.ph=0):Calls prog 53 #[.pointer (some ⟨b,0,none⟩)] w (aO w (.int .i64 0)):=by
 have:=lZ w y z;rw [d] at this;exact this
end
theorem aDI (y z:Int) (la:Option Addr) (ln lc:Nat) (w:World) (d:y<1\/24<y\/z<0\/100<z) :
  Calls prog 56 #[.int .i64 y,.int .i64 z,.slice la ln lc] w fun e w'=>e=.returned (.tuple #[.pointer none,.pointer none])/\Only [] w w':=by
 refine aF fun R hR=>?_;have c1:=aNd w y z d;have h3:=aA d;clear d;go_in;go_wp2_with fail;refine c1.mono ?_;rintro e w1 ⟨rfl,h1⟩;have c2:=aKm w1 y z h3.out;have h0:=aA h1;clear c1 h1;go_wp2_with fail;refine c2.mono ?_;rintro e w2 ⟨rfl,h2⟩;have h4:Hid (Only [] w w2):=h0.out.trans h2 (by simp);clear c2 h2 h0;go_wp2;exact hR.out _ _ ⟨rfl,h4.out⟩
theorem aBS (n:Nat) (y:Int) (la:Option Addr) (d lc:Nat) (f:Nat->Nat->Int) (w:World) (h1:1<=n) (h3:n<=24) (hr:0<=y/\y<=100) (hd:Recs 4 w la d f) :
  Calls prog 56 #[.int .i64 (n:Int),.int .i64 y,.slice la d lc] w fun e w'=>∃ b g c,e=.returned (.tuple #[.pointer (some ⟨b,0,none⟩),.pointer (some ⟨g,0,none⟩)])/\Fam w w' (P2 b g c c [])/\Std n y (aAs f (min d 60)) c/\c.ph=0:=by
 refine aF fun R hR=>?_;have c1:=aDM w (Fam.nil w) n y h1 h3 hr;have c2:Hid (∀ wx b,Fam w wx [CoA b (Co.new n y)]->Calls prog 36 #[.int .i64 (n:Int),.int .i64 y] wx (fun e w'=>∃ g,e=.returned (.tuple #[.pointer (some ⟨g,0,none⟩),.int .i64 0])/\Fam w w' (P2 b g (Co.new n y) (Co.new n y) []))):=fun wx b hx=>aHD wx hx n y h1 h3 hr;have h8:=aA (Std.new n y h1 h3 hr);have HD:=aA hd;clear hd h1 h3 hr;generalize Co.new n y=c0 at*;go_in;go_wp2_with fail;refine c1.mono ?_;rintro e w1 ⟨b,rfl,x1⟩;have h9:=c2.out w1 b x1;clear c1 c2 x1;go_wp2_with fail;refine h9.mono ?_;rintro e w2 ⟨g,rfl,x2⟩;have h7:=aA x2;clear h9 x2;go_wp2;go_loopw [12] (fun iv wr=>∃ (x:Nat) (c:Co),x<=d/\x<=60/\iv=.int .i64 x/\Fam w wr (P2 b g c c [])/\Hid (Std n y (aAs f x) c)) (fun iv _=>d - (intOf iv).toNat)
 case atStart=>exact ⟨0,c0,by omega,by omega,rfl,h7.out,h8⟩
 case round=>as_aux_lemma=>
  clear h7 h8;obtain ⟨x,c,hx,x8,rfl,hF,HC⟩:=hrel;have z:=aA hF;clear hF
  by_cases h6:x<d/\x<60
  ·obtain ⟨h6,y0⟩:=h6;have x7:(x:Int)<d:=by omega
   have y2:(0:Int)<=x:=by omega
   have x9:(x:Int)<60:=by omega
   rcases HD.out.2 with h0|⟨bb,oo,rfl,hc⟩
   ·omega
   have c0:=z.out.cell (hc x (by omega) 0 (by omega)).1;have c1:=z.out.cell (hc x (by omega) 1 (by omega)).1;have c2:=z.out.cell (hc x (by omega) 2 (by omega)).1;have c3:=z.out.cell (hc x (by omega) 3 (by omega)).1;rw [Nat.add_zero] at c0;rw [<-Nat.add_assoc] at c1 c2 c3;have wa:=(hc x (by omega) 1 (by omega)).2;have wb:=(hc x (by omega) 2 (by omega)).2;have wc:=(hc x (by omega) 3 (by omega)).2;have cd:=aPe _ z.out HC.out.ok (f x 0) (f x 1) (f x 2) (f x 3) wa wb wc;have x4:Hid (Std n y (aAs f (x+1)) (c.deed (f x 0) (f x 1) (f x 2) (f x 3))):=HC.out.deed _ _ _;generalize c.deed (f x 0) (f x 1) (f x 2) (f x 3)=c' at*;generalize f x 0=d0 at*;generalize f x 1=d1 at*;generalize f x 2=d2 at*;generalize f x 3=d3 at*;clear hc wa wb wc;go_wp2_with fail;refine cd.mono ?_;rintro e w3 ⟨rfl,h2⟩;have x5:=aA h2;clear cd h2 c0 c1 c2 c3 z;go_wp2;exact ⟨⟨x+1,c',by omega,by omega,by go_num,x5.out,x4⟩,by simp [intOf];omega⟩
  have HX:Hid (Std n y (aAs f (min d 60)) c):=by
   have e:min d 60=x:=by omega
   rw [e];exact HC.out
  have hl:((x:Int)<d/\¬ (x:Int)<60)\/(¬ (x:Int)<d/\True):=by
   by_cases e:x<d
   ·exact .inl ⟨by omega,by omega⟩
   exact .inr ⟨by omega,trivial⟩
  clear HD HC h6
  by_cases hp:c.ph=0
  ·have cp:=aKN (i:=0) z.out rfl hp;have gs:wr.cell? ⟨g,3,none⟩=some (.int .i64 0):=by rw [GoA.stage (i:=1) z.out rfl,hp];rfl
   have HE:=aA (show _/\_/\_ from ⟨z.out,HX.out,hp⟩);clear hp z HX;rcases hl with ⟨h4,h5⟩|⟨h4,h5⟩
   all_goals
    go_wp2_with fail;refine cp.mono ?_;rintro e _ ⟨rfl,rfl⟩;clear cp;go_wp2;exact hR.out _ _ ⟨b,g,c,rfl,HE.out⟩
  have cp:=lZ (i:=0) wr z.out rfl;have cf:=qC (i:=0) wr z.out rfl HX.out.ok.k;have y1:¬ (c.ph:Int)=0:=by omega
  have HQ:Hid (∀ wx,Fam w wx (P2 b g c.finish.2.2.2 c [])->wx.cell? ⟨g,3,none⟩=some (.int .i64 (c.ph:Int))/\Calls prog 97 #[.pointer (some ⟨g,0,none⟩)] wx (fun e w'=>e=.returned (.tuple #[.int .i64 c.finish.1,.int .i64 c.finish.2.1,.int .i64 c.finish.2.2.1])/\Fam w w' (P2 b g c.finish.2.2.2 c.finish.2.2.2 []))):=fun wx hx=>⟨GoA.stage (i:=1) hx rfl,xW (i:=1) wx hx rfl HX.out.ok.k⟩;have HE:=aA HX.out.finish;have cf:Calls prog 44 #[.pointer (some ⟨b,0,none⟩)] wr (fun e w'=>e=.returned (.tuple #[.int .i64 c.finish.1,.int .i64 c.finish.2.1,.int .i64 c.finish.2.2.1])/\Fam w w' (P2 b g c.finish.2.2.2 c [])):=cf;clear hp z HX;generalize c.finish=ff at*;obtain ⟨f1,f2,f3,f4⟩:=ff;generalize (c.ph:Int)=ph at*;rcases hl with ⟨h4,h5⟩|⟨h4,h5⟩
  all_goals
   go_wp2_with fail;refine cp.mono ?_;rintro e _ ⟨rfl,rfl⟩;clear cp;go_wp2_with fail;refine cf.mono ?_;rintro e w3 ⟨rfl,h2⟩;obtain ⟨gs,cq⟩:=HQ.out _ h2;clear cf HQ h2;go_wp2_with fail;refine cq.mono ?_;rintro e w4 ⟨rfl,x3⟩;have x6:=aA x3;clear cq x3 gs;go_wp2;exact hR.out _ _ ⟨b,g,f4,rfl,x6.out,HE.out⟩
def lX (M:Hp) (L:List Int):Nat->List Int
 | 0=>[]
 | k+1=>lX M L k ++ if (M.ob (gI L k)).isSome=true then [gI L k] else []
def uS (M:Hp) (L:List Int):List Int:=lX M L L.length
theorem zJ (M:Hp) (L:List Int):∀ k,(lX M L k).length<=k
 | 0=>Nat.le_refl _
 | k+1=>by
  unfold lX;rw [List.length_append];have:=zJ M L k;split<;>simp<;>omega
theorem zI {M:Hp} {L:List Int} {x:Int}:∀ {k:Nat},x∈lX M L k->(M.ob x).isSome=true
 | 0,h=>by cases h
 | k+1,h=>by
  unfold lX at h;rcases List.mem_append.1 h with h|h
  ·exact zI h
  split at h
  ·next e=>rw [List.mem_singleton] at h;rw [h];exact e
  cases h
theorem aHN (M:Hp) (L:List Int):¬ M.fJ (uS M L):=fun ⟨x,hx,_,h⟩=>by
 have:=zI hx;rw [h] at this
 cases this
theorem aDD {M:Hp} {c:Int}:(uS M (dD c)).length<=40:=Nat.le_trans (zJ _ _ _) (nJ c 40)
section
variable {w0 w:World} {l:List Asn} {b q:Nat} {c:Co} {i:Nat}
theorem GoA.aQf (hf:Fam w0 w l) (hi:l[i]?=some (GoA b c)) (hq:w.cell? ⟨b,0,none⟩=some (.pointer (some ⟨q,0,none⟩))) (y:Int):Calls prog 58 #[.pointer (some ⟨q,0,none⟩),.int .i64 y] w (fun e w'=>e=.returned (.bool (c.m.M.ob y).isSome)/\Only [] w w'):=by
 obtain ⟨q2,z,d⟩:=GoA.lives hf hi;rw [hq] at z;have e:q=q2:=by injection z with z;injection z with z;injection z with z;injection z
 rw [e];exact d y
theorem aIj (h:c.Ok) (z:c.ph=0) {n:Int}:(c.begin (uS c.m.M (dD n))).1=0:=by
 have y:=aDD (M:=c.m.M) (c:=n);unfold Co.begin;rw [if_neg (by omega),if_neg (by omega),if_neg (aHN _ _)]
end
noncomputable def Co.nK (c:Co) (d a x y:Int):Co:=
 if d=0 then (c.aH a (aX x y)).2.2 else if d=1 then (c.aG a y x).2.2 else if d=2 then (c.store a x y).2 else (c.target a).2.2
section
variable {w0 w:World} {tl:List Asn} {b g:Nat} {c c2:Co}
def CPg (w0:World) (b g:Nat) (tl:List Asn) (y z:Co) (e:Ending) (w':World):Prop:=e=.returned (.tuple #[])/\Fam w0 w' (P2 b g y z tl)
theorem aSu (w:World) (hf:Fam w0 w (P2 b g c c2 tl)) (h:c.Ok) (a x y:Int) (wa:wfI a) (h1:wfI x) (wy:wfI y):Calls prog 59 #[.pointer (some ⟨b,0,none⟩),.agg #[.int .i64 1,.int .i64 a,.int .i64 x,.int .i64 y]] w (CPg w0 b g tl (c.nK 1 a x y) c2):=by
 refine aF fun R hR=>?_;have d:c.nK 1 a x y=(c.aG a y x).2.2:=rfl;rw [d] at hR;have F0:=aA (P2.deed hf 1 a x y);obtain ⟨wo,z⟩:∃ wo,wo=w.heap.size:=⟨_,rfl⟩;rw [<-z] at F0;have h0:=aA z;have HP:Hid (∀ wx,Fam w0 wx (P2 b g c c2 (tl ++ [DA wo 1 a x y]))->Calls prog 46 #[.pointer (some ⟨b,0,none⟩),.int .i64 a,.int .i64 y,.int .i64 x] wx (fun e w'=>e=.returned (.tuple #[.int .i64 (c.aG a y x).1,.int .i64 (c.aG a y x).2.1])/\Fam w0 w' (P2 b g ((c.aG a y x).2.2) c2 (tl ++ [DA wo 1 a x y])))):=fun wx hx=>sN wx hx (i:=0) rfl h a y x;clear hf h wa h1 wy z d;generalize c.aG a y x=rr at*;obtain ⟨r1,r2,r3⟩:=rr;go_in;go_upto_region 1 with fail;rw [<-h0.out];generalize w.alloc (.cells #[.int .i64 1,.int .i64 a,.int .i64 x,.int .i64 y] 80)=w1 at*;obtain ⟨o0,o1,o2,o3⟩:=P2.row F0.out;go_wp2_with fail;refine (HP.out _ F0.out).mono ?_;rintro e w3 ⟨rfl,f3⟩;have HE:=aA (P2.pop f3);clear f3 HP F0 o0 o1 o2 o3;go_wp2;refine bodyPost_end (results_none rfl _ _ _) rfl ?_;exact hR.out _ _ ⟨rfl,HE.out⟩
theorem aSt (w:World) (hf:Fam w0 w (P2 b g c c2 tl)) (h:c.Ok) (a x y:Int) (wa:wfI a) (h1:wfI x) (wy:wfI y):Calls prog 59 #[.pointer (some ⟨b,0,none⟩),.agg #[.int .i64 2,.int .i64 a,.int .i64 x,.int .i64 y]] w (CPg w0 b g tl (c.nK 2 a x y) c2):=by
 refine aF fun R hR=>?_;have d:c.nK 2 a x y=(c.store a x y).2:=rfl;rw [d] at hR;have F0:=aA (P2.deed hf 2 a x y);obtain ⟨wo,z⟩:∃ wo,wo=w.heap.size:=⟨_,rfl⟩;rw [<-z] at F0;have h0:=aA z;have HP:Hid (∀ wx,Fam w0 wx (P2 b g c c2 (tl ++ [DA wo 2 a x y]))->Calls prog 52 #[.pointer (some ⟨b,0,none⟩),.int .i64 a,.int .i64 x,.int .i64 y] wx (fun e w'=>e=.returned (.int .i64 (c.store a x y).1)/\Fam w0 w' (P2 b g ((c.store a x y).2) c2 (tl ++ [DA wo 2 a x y])))):=fun wx hx=>aAV wx hx (i:=0) rfl h.k a x y wa wy;clear hf h wa h1 wy z d;generalize c.store a x y=rr at*;obtain ⟨r1,r2⟩:=rr;go_in;go_upto_region 1 with fail;rw [<-h0.out];generalize w.alloc (.cells #[.int .i64 2,.int .i64 a,.int .i64 x,.int .i64 y] 80)=w1 at*;obtain ⟨o0,o1,o2,o3⟩:=P2.row F0.out;go_wp2_with fail;refine (HP.out _ F0.out).mono ?_;rintro e w3 ⟨rfl,f3⟩;have HE:=aA (P2.pop f3);clear f3 HP F0 o0 o1 o2 o3;go_wp2;refine bodyPost_end (results_none rfl _ _ _) rfl ?_;exact hR.out _ _ ⟨rfl,HE.out⟩
theorem aSs (w:World) (hf:Fam w0 w (P2 b g c c2 tl)) (h:c.Ok) (d:Int) (hd:d≠0/\d≠1/\d≠2) (a x y:Int) (wa:wfI a) (h5:wfI x) (wy:wfI y):Calls prog 59 #[.pointer (some ⟨b,0,none⟩),.agg #[.int .i64 d,.int .i64 a,.int .i64 x,.int .i64 y]] w (CPg w0 b g tl (c.nK d a x y) c2):=by
 refine aF fun R hR=>?_;have h0:c.nK d a x y=(c.target a).2.2:=by unfold Co.nK;rw [if_neg hd.1,if_neg hd.2.1,if_neg hd.2.2]
 rw [h0] at hR;have F0:=aA (P2.deed hf d a x y);obtain ⟨wo,z⟩:∃ wo,wo=w.heap.size:=⟨_,rfl⟩;rw [<-z] at F0;have h1:=aA z;have HP:Hid (∀ wx,Fam w0 wx (P2 b g c c2 (tl ++ [DA wo d a x y]))->Calls prog 49 #[.pointer (some ⟨b,0,none⟩),.int .i64 a] wx (fun e w'=>e=.returned (.tuple #[.int .i64 (c.target a).1,.int .i64 (c.target a).2.1])/\Fam w0 w' (P2 b g ((c.target a).2.2) c2 (tl ++ [DA wo d a x y])))):=fun wx hx=>zT wx hx (i:=0) rfl h.k a;obtain ⟨h2,h3,h4⟩:=hd;have d0:(d == 0)=false:=by rw [beq_eq_false_iff_ne];exact h2
 have d1:(d == 1)=false:=by rw [beq_eq_false_iff_ne];exact h3
 have d2:(d == 2)=false:=by rw [beq_eq_false_iff_ne];exact h4
 clear hf h wa h5 wy z h0;generalize c.target a=rr at*;obtain ⟨r1,r2,r3⟩:=rr;go_in;go_upto_region 1 with fail;rw [<-h1.out];generalize w.alloc (.cells #[.int .i64 d,.int .i64 a,.int .i64 x,.int .i64 y] 80)=w1 at*;obtain ⟨o0,o1,o2,o3⟩:=P2.row F0.out;go_wp2_with fail;refine (HP.out _ F0.out).mono ?_;rintro e w3 ⟨rfl,f3⟩;have HE:=aA (P2.pop f3);clear f3 HP F0 o0 o1 o2 o3;go_wp2;refine bodyPost_end (results_none rfl _ _ _) rfl ?_;exact hR.out _ _ ⟨rfl,HE.out⟩
theorem aSv (w:World) (hf:Fam w0 w (P2 b g c c2 tl)) (h:c.Ok) (a x y:Int) (wa:wfI a) (h6:wfI x) (wy:wfI y):Calls prog 59 #[.pointer (some ⟨b,0,none⟩),.agg #[.int .i64 0,.int .i64 a,.int .i64 x,.int .i64 y]] w (CPg w0 b g tl (c.nK 0 a x y) c2):=by
 refine aF fun R hR=>?_;have h4:c.nK 0 a x y=(c.aH a (aX x y)).2.2:=rfl;rw [h4] at hR;have F0:=aA (P2.deed hf 0 a x y);obtain ⟨wo,h0⟩:∃ wo,wo=w.heap.size:=⟨_,rfl⟩;rw [<-h0] at F0;have h5:=aA h0;obtain ⟨n,hn⟩:∃ n,n=(aX x y).length:=⟨_,rfl⟩;have HN:=aA hn;have h7:n<=9:=by rw [hn];unfold aX;rw [sD];exact aFa x
 have h3:Hid (∀ (A1 A2:Asn) (z:Option Addr) (d:Nat) wx,Fam w0 wx (A1 :: A2 :: (tl ++ [DA wo 0 a x y] ++ [aGm (.slice z n d) (aX x y)]))->aAw wx (.slice z n d) (aX x y)):=fun A1 A2 z d wx hx=>(hx.bls (3+tl.length) (by
  rw [Nat.add_comm 3];show (_ :: _ :: (tl ++ [DA wo 0 a x y] ++ [aGm (.slice z n d) (aX x y)]))[tl.length+3]?=_;simp only [List.getElem?_cons_succ];have h2:(tl ++ [DA wo 0 a x y]).length=tl.length+1:=by simp
  rw [<-h2];exact jA _ _)).aQG
 have h1:Hid (∀ (c1 c2:Co) wx,Fam w0 wx (P2 b g c1 c2 (tl ++ [DA wo 0 a x y]))->Calls prog 91 #[.int .i64 x,.int .i64 y] wx (fun e w'=>∃ z d,e=.returned (.slice z n d)/\Fam w0 w' (P2 b g c1 c2 (tl ++ [DA wo 0 a x y] ++ [aGm (.slice z n d) (aX x y)])))):=fun c1 c2 wx hx=>(aAU wx x y).mono fun e w' ⟨v,he,hb,ho⟩=>by
  obtain ⟨z,d,hv⟩:=hb.len;rw [<-HN.out] at hv;subst hv;exact ⟨z,d,he,hx.aNN ho hb⟩
 have HP:Hid (∀ (z:Option Addr) (d:Nat) wx,Fam w0 wx (P2 b g c c2 (tl ++ [DA wo 0 a x y] ++ [aGm (.slice z n d) (aX x y)]))->Calls prog 45 #[.pointer (some ⟨b,0,none⟩),.int .i64 a,.slice z n d] wx (fun e w'=>e=.returned (.tuple #[.int .i64 (c.aH a (aX x y)).1,.int .i64 (c.aH a (aX x y)).2.1])/\Fam w0 w' (P2 b g ((c.aH a (aX x y)).2.2) c2 (tl ++ [DA wo 0 a x y] ++ [aGm (.slice z n d) (aX x y)])))):=fun z d wx hx=>jC wx hx (i:=0) rfl h a z n d (aX x y) hn.symm (by omega) (fun wy hy=>h3.out _ _ _ _ wy hy);clear hf h wa h6 wy h0 h4 hn h3;generalize c.aH a (aX x y)=rr at*;obtain ⟨r1,r2,r3⟩:=rr;go_in;go_upto_region 1 with fail;rw [<-h5.out];generalize w.alloc (.cells #[.int .i64 0,.int .i64 a,.int .i64 x,.int .i64 y] 80)=w1 at*;obtain ⟨o0,o1,o2,o3⟩:=P2.row F0.out;go_wp2;go_region_held3 (fun w'=>w'.cell? ⟨wo,1,none⟩=some (.int .i64 a)/\w'.cell? ⟨wo,2,none⟩=some (.int .i64 x)/\w'.cell? ⟨wo,3,none⟩=some (.int .i64 y))
  (first|(exact (P2.row F0.out).2)|(exact (P2.row F0.out.drew).2)|(exact (P2.aNz f2).2)|(exact (P2.aNz f3).2))
  (first
   | (go_at_call 91;refine (h1.out _ _ _ F0.out.drew).mono ?_;rintro e w2 ⟨z,d,rfl,f2⟩)
   | (go_at_call 45;refine (HP.out _ _ _ f2).mono ?_;rintro e w3 ⟨rfl,f3⟩))
 have HE:=aA (P2.pop (P2.pop f3));clear f2 f3 HP h1 F0 o0 o1 o2 o3;go_wp2;refine bodyPost_end (results_none rfl _ _ _) rfl ?_;exact hR.out _ _ ⟨rfl,HE.out⟩
theorem aDK (w:World) (e:Fam w0 w (P2 b g c c2 tl)) (h:c.Ok) (d a x y:Int) (wa:wfI a) (z:wfI x) (wy:wfI y):Calls prog 59 #[.pointer (some ⟨b,0,none⟩),.agg #[.int .i64 d,.int .i64 a,.int .i64 x,.int .i64 y]] w (CPg w0 b g tl (c.nK d a x y) c2):=by
 by_cases h0:d=0
 ·rw [h0];exact aSv w e h a x y wa z wy
 by_cases h1:d=1
 ·rw [h1];exact aSu w e h a x y wa z wy
 by_cases h2:d=2
 ·rw [h2];exact aSt w e h a x y wa z wy
 exact aSs w e h d ⟨h0,h1,h2⟩ a x y wa z wy
structure Bnd (B:Int) (sum:Int) (c:Co):Prop where
 ok:c.Ok
 pn:c.Pn
 lo:c.low
 le:sum+(c.pot:Int)<=B
theorem Bnd.nK {B s:Int} (h:Bnd B s c) (d a x y:Int):Bnd B s (c.nK d a x y)/\(c.nK d a x y).ph=c.ph:=by
 have z:=h.ok.k;have le:=h.le;unfold Co.nK;split
 ·obtain ⟨e,l2⟩:=aBC z h.lo a (aX x y);exact ⟨⟨h.ok.aH _ _,h.pn.aH z _ _,e,by rw [aBt z h.lo];exact le⟩,l2⟩
 split
 ·obtain ⟨e,l2⟩:=aDa z h.lo a y x;exact ⟨⟨h.ok.aG _ _ _,h.pn.aG z _ _ _,e,by rw [aCG z h.lo];exact le⟩,l2⟩
 split
 ·obtain ⟨e,l2⟩:=aJO h.lo a x y;exact ⟨⟨h.ok.store _ _ _,h.pn.store _ _ _,e,by rw [aJo z];exact le⟩,l2⟩
 obtain ⟨e,l2⟩:=aHm h.lo a;exact ⟨⟨h.ok.target _,h.pn.target _,e,by rw [aGV];exact le⟩,l2⟩
theorem Bnd.step {B s:Int} (h:Bnd B s c) (y:c.ph≠0):Bnd B (s+c.step.1) c.step.2.2/\c.step.2.1=0/\1<=c.step.1/\s+c.step.1<=B:=by
 have z:=h.ok.k;have d:=aMe z h.pn y;have e:=(z.cost y).1;have le:=h.le;refine ⟨⟨h.ok.step,h.pn.step z,aMq h.lo y,by omega⟩,?_,by omega,by omega⟩;unfold Co.step;rw [if_neg y];split
 ·split<;>rfl
 split
 ·rfl
 split<;>rfl
theorem Bnd.begin {n k:Nat} {bs:Int} (h:Std n 0 k c) (y:c.ph=0) (hn:1<=n/\n<=24):∃ (d:Co) (B:Int),c.begin (uS c.m.M (dD bs))=(0,d)/\zZ n ((uS c.m.M (dD bs)).length:Nat) (min k 20:Nat)=(B,0)/\Bnd B (1+((uS c.m.M (dD bs)).length:Nat)) d/\d.cr = -1 - ((uS c.m.M (dD bs)).length:Nat)/\d.ph=1/\B<=10000:=by
 have hb:=aIj h.ok y (n:=bs);obtain ⟨p1,z,e,p4,p5⟩:=aJp h.ok.k h.pn hb;have h4:=aDD (M:=c.m.M) (c:=bs);have h1:=h.el;have h0:=h.ok.k.tg.b.le;have h2:=h.pg;generalize hr:(uS c.m.M (dD bs)).length=r at*;refine ⟨(c.begin (uS c.m.M (dD bs))).2,1+(r:Int)+4+((min k 20:Nat):Int)+2*(8*(n:Int)+16*(n:Int))+2*(8*(n:Int))+8*(n:Int)*12,by rw [<-hb],?_,⟨h.ok.begin _,h.pn.begin _,z h.rt,?_⟩,p4,e,?_⟩
 ·unfold zZ;rw [if_neg (by omega)]
 ·omega
 omega
end
end Go.Proofs.YthflghdaejbdkaaGreat
