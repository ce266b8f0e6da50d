/- Lemmas of this claim. -/
import Derived.Test.YthflghdaejbdkaaGreatXaCyStar
import Derived.Test.YthflghdaejbdkaaGreatXaCySt
import Derived.Test.YthflghdaejbdkaaGreatXaOFull
namespace Go.Proofs.YthflghdaejbdkaaGreat
open _root_.Go.Proofs.Tryz (prog)
set_option linter.unusedVariables false
set_option maxRecDepth 100000
set_option maxHeartbeats 1600000
section
variable {c:Co}
theorem aCa (c:Co) (n:Int) (s:List Int):({ c with cr:=n }:Co).dR s=(1,{ (c.dR s).2 with cr:=n }):=rfl
theorem wU (c:Co) (n:Int) (z:c.ph≠0):({ c with cr:=n }:Co).step=(c.step.1,c.step.2.1,if c.step.2.2.ph=0 then c.step.2.2 else { c.step.2.2 with cr:=n }):=by
 unfold Co.step;rw [if_neg z,if_neg (show ¬ ({ c with cr:=n }:Co).ph=0 from z)]
 by_cases h1:c.ph=1
 ·rw [if_pos h1,if_pos (show ({ c with cr:=n }:Co).ph=1 from h1)]
  by_cases y:c.m.list=[]
  ·rw [if_pos y,if_pos (show ({ c with cr:=n }:Co).m.list=[] from y)];rw [if_neg (show ¬ c.iP.2.ph=0 by show ¬ (2:Nat)=0;decide)];rfl
  rw [if_neg y,if_neg (show ¬ ({ c with cr:=n }:Co).m.list=[] from y)];rw [if_neg (show ¬ c.mark.2.ph=0 from z)];rfl
 rw [if_neg h1,if_neg (show ¬ ({ c with cr:=n }:Co).ph=1 from h1)]
 by_cases h2:c.ph=2
 ·rw [if_pos h2,if_pos (show ({ c with cr:=n }:Co).ph=2 from h2)];rw [Co.fD,Co.fD];have hT:({ c with cr:=n }:Co).stepT={ c.stepT with cr:=n }:=rfl
  by_cases e0:(c.t.step c.m).2.2.1=0
  ·rw [if_pos e0,if_pos (show (({ c with cr:=n }:Co).t.step ({ c with cr:=n }:Co).m).2.2.1=0 from e0)];show _=(_,_,if c.ph=0 then _ else _);rw [if_neg z,hT]
  rw [if_neg e0,if_neg (show ¬ (({ c with cr:=n }:Co).t.step ({ c with cr:=n }:Co).m).2.2.1=0 from e0),hT];have hd:c.stepT.ph≠0:=z;generalize c.stepT=d at*;unfold Co.tail
  by_cases y:d.m.list=[]
  ·rw [if_pos y,if_pos (show ({ d with cr:=n }:Co).m.list=[] from y)];unfold Co.jC;rw [aCa];show ((1:Int),(0:Int),({ (d.dR d.m.white).2 with cr:=n }:Co))=(1,0,if (3:Nat)=0 then _ else _);rw [if_neg (show ¬ (3:Nat)=0 by decide)]
  rw [if_neg y,if_neg (show ¬ ({ d with cr:=n }:Co).m.list=[] from y)];show _=(_,_,if d.ph=0 then _ else _);rw [if_neg hd];rfl
 rw [if_neg h2,if_neg (show ¬ ({ c with cr:=n }:Co).ph=2 from h2)]
 by_cases h3:c.ph=3
 ·rw [if_pos h3,if_pos (show ({ c with cr:=n }:Co).ph=3 from h3)];unfold Co.free
  cases e:c.sw with
  | nil=>rfl
  | cons x r=>
   show _=(_,_,if c.ph=0 then _ else _);rw [if_neg z]
 rw [if_neg h3,if_neg (show ¬ ({ c with cr:=n }:Co).ph=3 from h3)];unfold Co.move
 by_cases hc:c.mv=8*c.pages\/c.m.M.P.move.2.2.1≠0
 ·rw [if_pos hc,if_pos (by exact hc)];rfl
 rw [if_neg hc,if_neg (by exact hc)];show _=(_,_,if c.ph=0 then _ else _);rw [if_neg z]
theorem aMZ (y:c.ph≠0):c.pay=if c.step.2.2.ph=0 then c.step.2.2 else { c.step.2.2 with cr:=c.cr - c.step.1 }:=by
 unfold Co.pay;rw [wU c _ y]
theorem aLF (b:Int) (y:c.ph≠0):(c.more b).pay=if c.pay.ph=0 then c.pay else c.pay.more b:=by
 have z:(c.more b).step=(c.step.1,c.step.2.1,if c.step.2.2.ph=0 then c.step.2.2 else { c.step.2.2 with cr:=c.cr+b }):=wU c (c.cr+b) y;rw [aMZ (c:=c.more b) y,aMZ y];rw [z]
 by_cases e:c.step.2.2.ph=0
 ·simp only [e,if_true]
 simp only [e,if_false];show ({ c.step.2.2 with cr:=c.cr+b - c.step.1 }:Co)={ c.step.2.2 with cr:=c.cr - c.step.1+b };rw [show c.cr+b - c.step.1=c.cr - c.step.1+b by omega]
theorem aIL (b:Int) (k:Nat) (y:∀ j,j<k->(Co.pays j c).ph≠0) (d:c.ph≠0):Co.pays k (c.more b)=if (Co.pays k c).ph=0 then Co.pays k c else (Co.pays k c).more b:=by
 induction k with
 | zero=>rw [if_neg (show ¬ (Co.pays 0 c).ph=0 from d)];rfl
 | succ k e=>
  have z:=e (fun j hj=>y j (by omega));rw [if_neg (y k (by omega))] at z;show (Co.pays k (c.more b)).pay=_;rw [z,aLF b (y k (by omega))];rfl
theorem vY (i:Nat):∀ k,Co.pays (k+i) c=Co.pays k (Co.pays i c)
 | 0=>by rw [Nat.zero_add];rfl
 | k+1=>by
  rw [show k+1+i=(k+i)+1 by omega];show (Co.pays (k+i) c).pay=(Co.pays k (Co.pays i c)).pay;rw [vY i k]
theorem aJb (a b:Int):(c.more a).more b=c.more (a+b):=by
 show ({ c with cr:=c.cr+a+b }:Co)={ c with cr:=c.cr+(a+b) };rw [Int.add_assoc]
theorem aGG {b:Int} (hb:0<=b) (y:c.ph≠0) (h:(c.more b).stops):c.stops:=by
 rcases h with h|h
 ·exact absurd h y
 right;have z:(c.more b).step.1=c.step.1:=by
  show ({ c with cr:=c.cr+b }:Co).step.1=_;rw [wU c _ y]
 rw [z] at h;have d:c.cr+b<c.step.1:=h;omega
theorem rJ {n:Int} (y:c.ph=0):c.give n=(0,c):=by unfold Co.give;rw [if_pos y]
theorem wK {n:Int} (y:c.ph≠0):c.give n=(((c.more n).gives:Int),Co.pays (c.more n).gives (c.more n)):=by unfold Co.give;rw [if_neg y]
theorem aHf (h:c.Okc) {n:Int} (z:0<=n):(c.give n).2.stops:=by
 by_cases y:c.ph=0
 ·rw [rJ y];exact .inl y
 rw [wK y];exact (Co.dI (h.more y z)).1
theorem aMg (h:c.Okc) {a b:Int} (ha:0<=a) (hb:0<=b):(c.give a).1+((c.give a).2.give b).1=(c.give (a+b)).1/\((c.give a).2.give b).2=(c.give (a+b)).2:=by
 by_cases z:c.ph=0
 ·rw [rJ (n:=a) z,rJ (n:=a+b) z];show 0+(c.give b).1=0/\(c.give b).2=c;rw [rJ z];exact ⟨rfl,rfl⟩
 have hd:=h.more z ha;have h8:(c.more a).ph≠0:=z;have h4:(c.more (a+b)).Okc:=h.more z (by omega);obtain ⟨s1,s2,_⟩:=Co.dI hd;obtain ⟨e,he⟩:∃ e,e=Co.pays (c.more a).gives (c.more a):=⟨_,rfl⟩;have h0:∀ j,j<(c.more a).gives->(Co.pays j (c.more a)).ph≠0:=fun j d x=>s2 j d (.inl x);have y:=fun k (hk:k<=(c.more a).gives)=>aIL (c:=c.more a) b k (fun j d=>h0 j (by omega)) h8;rw [aJb] at y;have h5:∀ j,j<(c.more a).gives->¬ (Co.pays j (c.more (a+b))).stops:=fun j d x=>by
  rw [y j (by omega),if_neg (h0 j d)] at x;exact s2 j d (aGG hb (h0 j d) x)
 rw [wK (n:=a) z,wK (n:=a+b) z];show ((c.more a).gives:Int)+((Co.pays (c.more a).gives (c.more a)).give b).1=((c.more (a+b)).gives:Int)/\((Co.pays (c.more a).gives (c.more a)).give b).2=Co.pays (c.more (a+b)).gives (c.more (a+b))
 by_cases hz:(Co.pays (c.more a).gives (c.more a)).ph=0
 ·have h1:=y _ (Nat.le_refl _);rw [if_pos hz] at h1;have h2:=Co.oD h4 h5 (by rw [h1];exact .inl hz);rw [rJ hz,<-h2,h1];exact ⟨by show ((c.more a).gives:Int)+0=_;omega,rfl⟩
 have h1:=y _ (Nat.le_refl _);rw [if_neg hz] at h1;have h7:=(Co.pG hd _ s2).1;have h6:=h7.more hz hb;obtain ⟨t1,t2,_⟩:=Co.dI h6;rw [wK hz];show ((c.more a).gives:Int)+((((Co.pays (c.more a).gives (c.more a)).more b).gives:Nat):Int)=_/\Co.pays ((Co.pays (c.more a).gives (c.more a)).more b).gives ((Co.pays (c.more a).gives (c.more a)).more b)=_;rw [<-h1] at t1 t2 ⊢;have h2:(Co.pays (c.more a).gives (c.more (a+b))).gives+(c.more a).gives=(c.more (a+b)).gives:=by
  refine Co.oD h4 (fun j d=>?_) (by rw [vY];exact t1);rcases Nat.lt_or_ge j (c.more a).gives with h3|h3
  ·exact h5 j h3
  obtain ⟨k,rfl⟩:∃ k,j=k+(c.more a).gives:=⟨j - (c.more a).gives,by omega⟩;rw [vY];exact t2 k (by omega)
 rw [<-h2,vY];exact ⟨by push_cast;omega,rfl⟩
end
end Go.Proofs.YthflghdaejbdkaaGreat
namespace Go.Proofs.YthflghdaejbdkaaGreat
open _root_.Go.Proofs.Tryz (prog)
open Go.RowKit Go.Maps
set_option maxHeartbeats 12800000
set_option maxRecDepth 100000
set_option linter.unusedVariables false
def lN (M:Hp) (L:List Int):Nat->List Int
 | 0=>[]
 | k+1=>lN M L k ++ if (M.ob (gI L k)).isSome=true then [gI L k] else []
def pR (M:Hp) (L:List Int):List Int:=lN M L L.length
theorem zB (M:Hp) (L:List Int):∀ k,(lN M L k).length<=k
 | 0=>Nat.le_refl _
 | k+1=>by
  unfold lN;rw [List.length_append];have:=zB M L k;split<;>simp<;>omega
theorem zA {M:Hp} {L:List Int} {x:Int}:∀ {k:Nat},x∈lN M L k->(M.ob x).isSome=true
 | 0,h=>by cases h
 | k+1,h=>by
  unfold lN at h;rcases List.mem_append.1 h with h|h
  ·exact zA h
  split at h
  ·next e=>rw [List.mem_singleton] at h;rw [h];exact e
  cases h
theorem aHm (M:Hp) (L:List Int):¬ M.fM (pR M L):=fun ⟨x,hx,_,h⟩=>by
 have:=zA hx;rw [h] at this
 cases this
theorem aJW {M:Hp} {c:Int}:(pR M (dM c)).length<=40:=Nat.le_trans (zB _ _ _) (mW c 40)
section
variable {w0 w:World} {l:List Asn} {b q:Nat} {c:Co} {i:Nat}
theorem GoA.aPy (hf:Fam w0 w l) (hi:l[i]?=some (GoA b c)) (hq:w.cell? ⟨b,0,none⟩=some (.pointer (some ⟨q,0,none⟩))) (y:Int):Calls prog 58 #[.pointer (some ⟨q,0,none⟩),.int .i64 y] w (fun e w'=>e=.returned (.bool (c.m.M.ob y).isSome)/\Only [] w w'):=by
 obtain ⟨q2,z,d⟩:=GoA.lives hf hi;rw [hq] at z;have e:q=q2:=by injection z with z;injection z with z;injection z with z;injection z
 rw [e];exact d y
theorem aHI (h:c.Ok) (z:c.ph=0) {n:Int}:(c.begin (pR c.m.M (dM n))).1=0:=by
 have y:=aJW (M:=c.m.M) (c:=n);unfold Co.begin;rw [if_neg (by omega),if_neg (by omega),if_neg (aHm _ _)]
end
theorem aJH {c:Co} (h:c.Ok) {n:Int} (z:0<=n/\n<=10000):0<=(c.give n).1/\(c.give n).1<=10061:=by
 unfold Co.give;split
 ·exact ⟨Int.le_refl 0,by show (0:Int)<=10061;decide⟩
 next d=>
  have hd:=h.k.more d z.1;have y:=(Co.dI hd).2.2;have e:(c.more n).cr<=10060:=by
   have:=h.cr2;show c.cr+n<=10060;omega
  refine ⟨?_,?_⟩
  ·show (0:Int)<=((c.more n).gives:Int);omega
  show ((c.more n).gives:Int)<=10061;unfold Co.nu at y;split at y<;>omega
theorem aBt {c:Co} {n:Int} (y:0<=n/\n<=10000):c.eF n=((c.give n).1,0,(c.give n).2):=by
 unfold Co.eF;rw [if_neg (by omega)]
theorem aJG {d:Co} (h:d.Ok) {a b:Int} (z:0<=a/\a<=5000) (hb:0<=b/\b<=5000):∃ (x y:Int) (e f:Co),d.eF a=(x,0,e)/\e.eF b=(y,0,f)/\d.eF (a+b)=(x+y,0,f)/\(0<=x/\x<=10061)/\(0<=y/\y<=10061)/\e.Ok/\f.Ok/\f.stops:=by
 have he:=h.give z.1;obtain ⟨h1,h2⟩:=aMg h.k z.1 hb.1;refine ⟨(d.give a).1,((d.give a).2.give b).1,(d.give a).2,((d.give a).2.give b).2,aBt ⟨z.1,by omega⟩,aBt ⟨hb.1,by omega⟩,?_,aJH h ⟨z.1,by omega⟩,aJH he ⟨hb.1,by omega⟩,he,he.give hb.1,aHf he.k hb.1⟩;rw [aBt ⟨by omega,by omega⟩,h1,h2]
theorem aGb {f:Co} (h:f.stops):(f.ph=0/\f.step.2.1=13)\/(f.ph≠0/\f.step.2.1=0/\f.cr<f.step.1):=by
 by_cases y:f.ph=0
 ·left;refine ⟨y,?_⟩;unfold Co.step;rw [if_pos y]
 right;refine ⟨y,?_,?_⟩
 ·unfold Co.step;rw [if_neg y];split
  ·split<;>rfl
  split
  ·rfl
  split<;>rfl
 rcases h with h|h
 ·exact absurd h y
 exact h
theorem aEM (M:Hp):aKI M M:=fun k _=>⟨rfl,fun o o2 h1 h2=>by rw [h1] at h2;cases h2;unfold qV;simp⟩
theorem walk_CycleGives (h0 h5:Int) (la:Option Addr) (ln lc:Nat) (f:Nat->Nat->Int) (bs x y:Int) (w:World) (wp:wfI h0) (wr:wfI h5) (hd:Recs 4 w la ln f) (wb:wfI bs) (d:wfI x) (wy:wfI y) :
  Calls prog 12 #[.int .i64 h0,.int .i64 h5,.slice la ln lc,.int .i64 bs,.int .i64 x,.int .i64 y] w fun e w'=>e=.returned (.bool true)/\Below w.heap.size w w':=by
 refine aF fun R hR=>?_
 by_cases x6:h0<1\/24<h0\/h5<0\/100<h5
 ·have c1:=aDs h0 h5 la ln lc w x6;clear hd wp wr x6 wb d wy;go_in;go_wp2_with fail;refine c1.mono ?_;rintro e w1 ⟨rfl,d4⟩;have cs:=rW w1;have z9:=aA d4;clear c1 d4;go_wp2_with fail;refine cs.mono ?_;rintro e w5 ⟨rfl,ho⟩;have HE:=aA (aMO z9.out ho);clear cs ho;go_wp2;exact hR.out _ _ ⟨rfl,HE.out⟩
 obtain ⟨⟨p1,g2⟩,r0,b5⟩:=aOB.1 x6;obtain ⟨pn,rfl⟩:∃ n:Nat,h0=(n:Int):=⟨h0.toNat,by omega⟩;have c1:=aBB pn h5 la ln lc f w (by omega) (by omega) ⟨r0,b5⟩ hd;clear hd wp wr x6 wb d wy p1 g2 r0 b5;generalize aMz f (min ln 60)=e8 at*;go_in;go_wp2_with fail;refine c1.mono ?_;rintro e w1 ⟨b,g,c,rfl,b6,d8,d7⟩;have y7:=aA b6;have x7:=aA d8;have a0:=aA d7;clear c1 b6 d8 d7
 by_cases a6:x<0\/y<0\/5000<x\/5000<y
 ·have cs:=rW w1;have z9:Hid (Only [] w w1):=y7.out.1;clear y7 x7 a0;have a6:(x<0/\True)\/(¬ x<0/\y<0)\/((¬ x<0/\¬ y<0)/\5000<x)\/((¬ x<0/\¬ y<0)/\¬ 5000<x/\5000<y):=by
   by_cases e1:x<0
   ·exact .inl ⟨e1,trivial⟩
   by_cases e2:y<0
   ·exact .inr (.inl ⟨e1,e2⟩)
   by_cases e3:5000<x
   ·exact .inr (.inr (.inl ⟨⟨e1,e2⟩,e3⟩))
   exact .inr (.inr (.inr ⟨⟨e1,e2⟩,e3,by omega⟩))
  rcases a6 with ⟨h1,h2⟩|⟨h1,h2⟩|⟨⟨h1,h2⟩,h3⟩|⟨⟨h1,h2⟩,h3,h4⟩
  all_goals
   go_wp2_with fail;refine cs.mono ?_;rintro e w5 ⟨rfl,ho⟩;have HE:=aA (aMO z9.out ho);clear cs ho;go_wp2;exact hR.out _ _ ⟨rfl,HE.out⟩
 have HX:Hid ((0<=x/\x<=5000)/\0<=y/\y<=5000):=by show _/\_;omega
 have x1:¬ x<0:=by omega
 have y1:¬ y<0:=by omega
 have x2:¬ 5000<x:=by omega
 have y2:¬ 5000<y:=by omega
 have cr:=xG w1 bs;clear a6;go_wp2_with fail;refine cr.mono ?_;rintro e w3 ⟨v,rfl,z0,d6⟩;obtain ⟨va,vc,hv⟩:=z0.len;have a3:Hid ((dM bs).length<=40):=mW bs 40;have z7:Hid ((c.begin (pR c.m.M (dM bs))).1=0):=aHI x7.out.ok a0.out;have a1:Hid (∀ z∈pR c.m.M (dM bs),wfI z):=fun z hz=>aHW (x7.out.ok.k.hf.ok.inR (zA hz));obtain ⟨L,hL⟩:∃ L,L=dM bs:=⟨_,rfl⟩;rw [<-hL] at z0 hv a3 z7 a1;obtain ⟨n,hn⟩:∃ n,n=L.length:=⟨_,rfl⟩;rw [<-hn] at hv;have HN:=aA hn;have x8:Hid (n<=40):=by rw [hn];exact a3.out
 subst hv;have y8:Hid (Fam w w3 (P2 b g c c [dF (.slice va n vc) L])):=y7.out.iK d6 z0;clear cr z0 d6 hL hn y7 a3 x1 y1 x2 y2;go_wp2;go_loopw [15,17] (fun fv iv wr=>∃ k:Nat,k<=n/\iv=.int .i64 k/\aN wr w3.heap.size fv (lN c.m.M L k)/\Only [] w3 wr) (fun _ iv _=>n - (intOf iv).toNat)
 case atStart=>exact ⟨0,by omega,rfl,aN.nil _ _,Only.refl _ _⟩
 case round=>as_aux_lemma=>
  obtain ⟨k,hk,rfl,hi,ho⟩:=hrel;have HI:=aA hi;have HO:=aA ho;obtain ⟨fa,fc,c7⟩:=hi.len;obtain ⟨m,hm⟩:∃ m,m=(lN c.m.M L k).length:=⟨_,rfl⟩;rw [<-hm] at c7;have HM:=aA hm;have f5:m<=k:=by rw [hm];exact zB _ _ _
  subst c7;clear hi ho hm
  by_cases d3:k<n
  ·have HF:Hid (Fam w wr (P2 b g c c [dF (.slice va n vc) L])):=y8.out.aK HO.out;have i0:(0:Int)<=k:=by omega
   have g4:(k:Int)<n:=by omega
   have g7:(k:Int)<=40:=by have:=x8.out;omega
   have d2:k<L.length:=by rw [<-HN.out];exact d3
   obtain ⟨b1,o1,rfl,c1⟩:=(HF.out.ints 2 rfl).read.at d2;obtain ⟨q,g0,_⟩:=GoA.lives (i:=1) HF.out rfl;obtain ⟨y,hy⟩:∃ y,y=gI L k:=⟨_,rfl⟩;rw [<-hy] at c1;have HY:=aA hy;have HS:Hid (∀ d,Only [] wr d->d.cell? ⟨g,0,none⟩=some (.pointer (some ⟨q,0,none⟩))/\d.cell? ⟨b1,o1+k,none⟩=some (.int .i64 y)):=fun d hx=>⟨hx.cell0 g0,hx.cell0 c1⟩;have HL:Hid (∀ d,Only [] wr d->Calls prog 58 #[.pointer (some ⟨q,0,none⟩),.int .i64 y] d (fun e w'=>e=.returned (.bool (c.m.M.ob y).isSome)/\Only [] d w')):=fun d hx=>GoA.aPy (i:=1) (HF.out.aK hx) rfl (HS.out _ hx).1 y;have e6:Hid (m=(lN c.m.M L k).length/\m<=40):=⟨HM.out,by have:=x8.out;omega⟩;clear d2 hy HM x8 HN y8
   cases h7:(c.m.M.ob y).isSome with
   | true=>
    have x9:Hid (lN c.m.M L (k+1)=lN c.m.M L k ++ [y]):=by show lN c.m.M L k ++ (if _ then _ else _)=_;rw [<-HY.out,if_pos h7]
    rw [h7] at HL;clear h7 HY HF;go_upto_region 9 with fail;go_region_held3 (fun w'=>w'.cell? ⟨g,0,none⟩=some (.pointer (some ⟨q,0,none⟩))/\w'.cell? ⟨b1,o1+k,none⟩=some (.int .i64 y))
     (first|(exact HS.out _ (Only.refl _ _))|(exact HS.out _ (Only.refl _ _).drew)|(exact HS.out _ h6)|(exact HS.out _ ((Only.refl _ _).drew.trans h6 (by simp))))
     (first|(go_at_call 58;refine (HL.out _ (Only.refl _ _).drew).mono ?_;rintro e w4 ⟨rfl,h6⟩))
    have h8:Hid (Only [] wr w4):=(Only.refl _ _).drew.trans h6 (by simp);obtain ⟨_,c4⟩:=HS.out _ h8.out;have z5:Hid (aN w4 w3.heap.size (.slice fa m fc) (lN c.m.M L k)):=HI.out.only h8.out (by simp);have y0:Hid (Only [] w3 w4):=HO.out.trans h8.out (by simp);clear h6 HL HS h8 HI HO c1 g0;go_wp2_with (at_builtin;refine bD rfl _ _ rfl w3.heap.size _ _ rfl (z5.out.alloc _) w4.heap.size y rfl ?c1 ?c2 ?c3 ?c4)
    case c1=>exact (Row.new w4 _ [_]).cell 0 rfl
    case c2=>have:=e6.out;omega
    case c3=>have:=y0.out.size;simp;omega
    case c4=>
     intro v' w5 d1 d5 f2;have e7:Hid (Only [] w3 w5):=(y0.out.alloc _).trans d5 (fun z hz=>.inr (z5.out.own z (jK hz)).1);have z6:Hid (aN w5 w3.heap.size v' (lN c.m.M L (k+1))):=by
      show aN _ _ _ _;rw [x9.out];exact d1
     clear d1 d5 f2 x9 z5 y0 c4;go_wp2;exact ⟨⟨k+1,by omega,by go_num,z6.out,e7.out⟩,by simp [intOf];omega⟩
   | false=>
    have x9:Hid (lN c.m.M L (k+1)=lN c.m.M L k):=by show lN c.m.M L k ++ (if _ then _ else _)=_;rw [<-HY.out,if_neg (by rw [h7];decide),List.append_nil]
    rw [h7] at HL;clear h7 HY HF;go_upto_region 9 with fail;go_region_held3 (fun w'=>w'.cell? ⟨g,0,none⟩=some (.pointer (some ⟨q,0,none⟩))/\w'.cell? ⟨b1,o1+k,none⟩=some (.int .i64 y))
     (first|(exact HS.out _ (Only.refl _ _))|(exact HS.out _ (Only.refl _ _).drew)|(exact HS.out _ h6)|(exact HS.out _ ((Only.refl _ _).drew.trans h6 (by simp))))
     (first|(go_at_call 58;refine (HL.out _ (Only.refl _ _).drew).mono ?_;rintro e w4 ⟨rfl,h6⟩))
    have h8:Hid (Only [] wr w4):=(Only.refl _ _).drew.trans h6 (by simp);have z6:Hid (aN w4 w3.heap.size (.slice fa m fc) (lN c.m.M L (k+1))):=by
     show aN _ _ _ _;rw [x9.out];exact HI.out.only h8.out (by simp)
    have y0:Hid (Only [] w3 w4):=HO.out.trans h8.out (by simp);clear h6 HL HS h8 HI HO c1 g0 x9;go_wp2;exact ⟨⟨k+1,by omega,by go_num,z6.out,y0.out⟩,by simp [intOf];omega⟩
  have f4:k=n:=by omega
  subst f4;have HF:Hid (Fam w wr (P2 b g c c [dF (.slice va k vc) L,dF (.slice fa m fc) (pR c.m.M L)])):=by
   have h1:=HI.out;rw [HN.out] at h1;exact y8.out.iK HO.out h1
  have b4:Hid (m=(pR c.m.M L).length):=by
   show m=(lN c.m.M L L.length).length;rw [<-HN.out];exact HM.out
  have f1:m<=40:=by have:=x8.out;omega
  clear HI HO y8 HM f5 d3 hk;have HB:Hid (∀ d,Fam w d (P2 b g c c [dF (.slice va k vc) L,dF (.slice fa m fc) (pR c.m.M L)])->Calls prog 51 #[.pointer (some ⟨b,0,none⟩),.slice fa m fc] d (fun e w'=>e=.returned (.int .i64 0)/\Fam w w' (P2 b g (c.begin (pR c.m.M L)).2 c []))):=fun d hx=>by
   have h1:=uP (i:=0) d hx rfl x7.out.ok.k fa m fc (pR c.m.M L) b4.out.symm (by omega) a1.out (fun wy hy=>(hy.ints 3 rfl).read);rw [z7.out] at h1;refine h1.mono fun e w' ⟨he,f3⟩=>⟨he,?_⟩;have h2:Fam w w' (P2 b g (c.begin (pR c.m.M L)).2 c ([dF (.slice va k vc) L] ++ [dF (.slice fa m fc) (pR c.m.M L)])):=f3;have h3:Fam w w' (P2 b g (c.begin (pR c.m.M L)).2 c ([] ++ [dF (.slice va k vc) L])):=P2.pop h2;exact P2.pop h3
  have y5:=aA (x7.out.ok.begin (pR c.m.M L));have cb:=HB.out wr HF.out;obtain ⟨xx,yy,ee,ff,c8,c9,d0,d9,e4,z2,z3,z4⟩:=aJG y5.out HX.out.1 HX.out.2;have g1:(0<=x/\x<=5000)/\0<=y/\y<=5000:=HX.out;have e0:(0<=xx/\xx<=10061)/\0<=yy/\yy<=10061:=⟨d9,e4⟩;have f0:=aA e0;generalize (c.begin (pR c.m.M L)).2=dd at*;have a7:Hid (∀ d,Fam w d (P2 b g dd c [])->Calls prog 39 #[.pointer (some ⟨b,0,none⟩)] d (fun e w'=>∃ b2,e=.returned (.pointer (some ⟨b2,0,none⟩))/\Fam w w' (P2 b g dd c [CoA b2 dd]))):=fun d hx=>aKp (i:=0) d hx rfl y5.out.k;have a9:Hid (∀ d b2,Fam w d (P2 b g dd c [CoA b2 dd])->Calls prog 43 #[.pointer (some ⟨b,0,none⟩),.int .i64 x] d (fun e w'=>e=.returned (.tuple #[.int .i64 xx,.int .i64 0])/\Fam w w' (P2 b g ee c [CoA b2 dd]))):=fun d b2 hx=>by
   have:=oL (i:=0) d hx rfl y5.out x;rw [c8] at this;exact this
  have b0:Hid (∀ d b2,Fam w d (P2 b g ee c [CoA b2 dd])->Calls prog 43 #[.pointer (some ⟨b,0,none⟩),.int .i64 y] d (fun e w'=>e=.returned (.tuple #[.int .i64 yy,.int .i64 0])/\Fam w w' (P2 b g ff c [CoA b2 dd]))):=fun d b2 hx=>by
   have:=oL (i:=0) d hx rfl z2 y;rw [c9] at this;exact this
  have b3:Hid (∀ d b2,Fam w d (P2 b g ff c [CoA b2 dd])->Calls prog 43 #[.pointer (some ⟨b2,0,none⟩),.int .i64 (x+y)] d (fun e w'=>e=.returned (.tuple #[.int .i64 (xx+yy),.int .i64 0])/\Fam w w' (P2 b g ff c [CoA b2 ff]))):=fun d b2 hx=>by
   have:=oL (i:=2) d hx rfl y5.out (x+y);rw [d0] at this;exact this
  have e9:=aA z3;have a2:=aA (aGb z4);clear c8 c9 d0 d9 e4 z2 z3 z4 HB y5 HF HX b4 f1 z7 a1 x8 HN x7 a0 f0;obtain ⟨⟨x1,x2⟩,y1,y2⟩:=g1;obtain ⟨⟨x3,x4⟩,y3,y4⟩:=e0;go_wp2_with fail;refine cb.mono ?_;rintro e w4 ⟨rfl,b7⟩;have cc:=a7.out w4 b7;clear cb b7 a7;go_wp2_with fail;refine cc.mono ?_;rintro e w5 ⟨b2,rfl,b8⟩;have c1:=a9.out w5 b2 b8;clear cc b8 a9;go_wp2_with fail;refine c1.mono ?_;rintro e w6 ⟨rfl,b9⟩;have c2:=b0.out w6 b2 b9;clear c1 b9 b0;go_wp2_with fail;refine c2.mono ?_;rintro e w7 ⟨rfl,c0⟩;have c3:=b3.out w7 b2 c0;clear c2 c0 b3;have g9:0<=x+y/\x+y<=10000:=by omega
  have g8:0<=xx+yy/\xx+yy<=30000:=by omega
  go_wp2_with fail;refine c3.mono ?_;rintro e w8 ⟨rfl,x5⟩;have g5:=aA x5;have p1:=iU (i:=0) w8 x5 rfl;have p2:=iU (i:=2) w8 x5 rfl;have p3:=nK (i:=0) w8 x5 rfl;have p4:=nK (i:=2) w8 x5 rfl;have h1:=zN (i:=0) w8 x5 rfl;clear c3 x5;obtain ⟨cr,a4⟩:∃ cr,cr=ff.cr:=⟨_,rfl⟩;rw [<-a4] at p3 p4;have a8:=aA a4;clear a4;go_wp2_with fail;refine p1.mono ?_;rintro e _ ⟨rfl,rfl⟩;go_wp2_with fail;refine p2.mono ?_;rintro e _ ⟨rfl,rfl⟩;clear p1 p2;go_wp2_with fail;refine p3.mono ?_;rintro e _ ⟨rfl,rfl⟩;go_wp2_with fail;refine p4.mono ?_;rintro e _ ⟨rfl,rfl⟩;clear p3 p4;go_wp2_with fail;refine h1.mono ?_;rintro e w9 ⟨q1,rfl,f6,c5⟩;have h2:=zN (i:=2) w9 c5 rfl;clear h1 c5 f6;go_wp2_with fail;refine h2.mono ?_;rintro e wa ⟨q2,rfl,f7,y9⟩;have e5:=aA y9;obtain ⟨k1,L1,X1,r1⟩:=y9.ph 3 rfl;obtain ⟨k2,L2,X2,r2⟩:=y9.ph 4 rfl;have ca:=aKA wa r1 k1 r2 k2;clear h2 y9 f7 r1 r2 k1 k2;go_wp2_with fail;refine ca.mono ?_;rintro e g3 ⟨r,rfl,hr,h7⟩;obtain rfl:r=true:=hr.2 (aEM _);have c6:=e5.out.aK h7;have cc:=aKo (i:=0) g3 c6 rfl e9.out.k;clear ca hr h7 c6;rcases a2.out with ⟨z1,y6⟩|⟨z1,y6,f9⟩
  ·have a5:Hid (∀ d,Fam w d (P2 b g ff c [CoA b2 ff,PH q1 ff.m.M,PH q2 ff.m.M])->Calls prog 53 #[.pointer (some ⟨b,0,none⟩)] d (aO d (.int .i64 0))):=fun d hx=>aKj (i:=0) hx rfl z1;rw [y6] at cc;clear z1 y6 a2;generalize ff.step.1=st at*;go_wp2_with fail;refine cc.mono ?_;rintro e wc ⟨rfl,h9⟩;have cp:=a5.out wc h9;have z8:Hid (Only [] w wc):=h9.1;have cs:=rW wc;clear cc h9;go_wp2_with fail;refine cp.mono ?_;rintro e _ ⟨rfl,rfl⟩;clear cp;go_wp2_with fail;refine cs.mono ?_;rintro e wd ⟨rfl,ho⟩;have HE:=aA (aMO z8.out ho);clear cs ho;go_wp2;exact hR.out _ _ ⟨rfl,HE.out⟩
  have a5:Hid (∀ d,Fam w d (P2 b g ff c [CoA b2 ff,PH q1 ff.m.M,PH q2 ff.m.M])->Calls prog 53 #[.pointer (some ⟨b,0,none⟩)] d (aO d (.int .i64 (ff.ph:Int)))):=fun d hx=>iU (i:=0) d hx rfl;have f8:Hid (∀ d,Fam w d (P2 b g ff c [CoA b2 ff,PH q1 ff.m.M,PH q2 ff.m.M])->Calls prog 54 #[.pointer (some ⟨b,0,none⟩)] d (aO d (.int .i64 cr))):=fun d hx=>by
   rw [a8.out];exact nK (i:=0) d hx rfl
  rw [y6] at cc;rw [<-a8.out] at f9;have g6:¬ (ff.ph:Int)=0:=by omega
  clear z1 y6 a2;generalize ff.step.1=st at*;go_wp2_with fail;refine cc.mono ?_;rintro e wc ⟨rfl,h9⟩;have cp:=a5.out wc h9;have cq:=f8.out wc h9;have z8:Hid (Only [] w wc):=h9.1;have cs:=rW wc;clear cc h9;generalize (ff.ph:Int)=ph at*;go_wp2_with fail;refine cp.mono ?_;rintro e _ ⟨rfl,rfl⟩;clear cp;go_wp2_with fail;refine cq.mono ?_;rintro e _ ⟨rfl,rfl⟩;clear cq;go_wp2_with fail;refine cs.mono ?_;rintro e wd ⟨rfl,ho⟩;have HE:=aA (aMO z8.out ho);clear cs ho;go_wp2;exact hR.out _ _ ⟨rfl,HE.out⟩
end Go.Proofs.YthflghdaejbdkaaGreat
