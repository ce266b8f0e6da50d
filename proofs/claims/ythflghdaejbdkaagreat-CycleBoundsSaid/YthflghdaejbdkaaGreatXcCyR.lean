/- Lemmas of this claim. -/
import Derived.Test.YthflghdaejbdkaaGreatXcCyGE
import Derived.Test.YthflghdaejbdkaaGreatXcTbG
namespace Go.Proofs.YthflghdaejbdkaaGreat
open _root_.Go.Proofs.Tryz (prog)
open Go.RowKit Go.Maps
set_option maxHeartbeats 6400000
set_option maxRecDepth 100000
set_option linter.unusedVariables false
def qK (w0:World) (l:List Asn) (b:Nat) (r:Int×Int×Co) (e:Ending) (w':World):Prop:=e=.returned (.tuple #[.int .i64 r.1,.int .i64 r.2.1])/\∃ y:GX5,y.ok r.2.2/\Fam w0 w' (G5 b r.2.2 y ++ l)
section
variable {w0 w w':World} {l:List Asn} {b:Nat} {c:Co} {x:GX5} {i:Nat} {m:Mk} {t:Tb}
theorem aER (w:World) (hf:Fam w0 w (G5 b c x ++ l)) (hx:x.ok c) (h:c.Okc):Calls prog 97 #[.pointer (some ⟨b,0,none⟩)] w (fun e w'=>e=.returned (.tuple #[.int .i64 c.finish.1,.int .i64 c.finish.2.1,.int .i64 c.finish.2.2.1])/\∃ y:GX5,y.ok c.finish.2.2.2/\Fam w0 w' (G5 b c.finish.2.2.2 y ++ l)):=by
 refine aF fun R hR=>?_;unfold Co.finish at hR;have HH:=aA h;have x3:=(bF.cells hf).2.2.2.1
 by_cases hp:c.ph=0
 ·rw [if_pos hp] at hR;rw [hp] at x3;have HE:Hid (∃ y:GX5,y.ok c/\Fam w0 w (G5 b c y ++ l)):=⟨x,hx,hf⟩;clear hf hx h hp;go_in;go_wp2_with fail;go_ret3;exact hR.out _ _ ⟨rfl,HE.out⟩
 rw [if_neg hp] at hR;have x6:((c.ph:Int) == 0)=false:=by simpa using hp
 have HF:Hid (∃ y:GX5,y.ok c/\Fam w0 w (G5 b c y ++ l)):=⟨x,hx,hf⟩;have HP:=aA hp;have x5:=aA (Co.aMj h);clear hf hx h hp;generalize h9:c.ph=y4 at*;have x8:=aA h9;clear h9;go_in;go_upto_region 5 with fail;clear x3 x6;go_wp2;go_loopw [5,6] (fun iv jv wr=>∃ k:Nat,iv=.int .i64 k/\jv=.int .i64 (Co.costs k c)/\(∃ y:GX5,y.ok (Co.steps k c)/\Fam w0 wr (G5 b (Co.steps k c) y ++ l))/\Hid (∀ j,j<k->(Co.steps j c).ph≠0)) (fun iv _ _=>40000 - (intOf iv).toNat)
 case atStart=>exact ⟨0,rfl,rfl,HF.out,fun j hj=>by omega⟩
 case round=>as_aux_lemma=>
  clear HF;obtain ⟨k,rfl,rfl,⟨y,h3,z⟩,HB⟩:=hrel;have h0:=HH.out.steps k;have h8:=Co.oD HH.out k HB.out;have y1:=Co.aBT HH.out k;have hk:k<=30192:=by have:=x5.out;omega
  have y3:=(bF.cells z).2.2.2.1
  by_cases he:(Co.steps k c).ph=0
  ·have h7:=Co.aEV HH.out HB.out he;rw [he] at y3;rw [<-h7] at hR;have HE:Hid (∃ y:GX5,y.ok (Co.steps k c)/\Fam w0 wr (G5 b (Co.steps k c) y ++ l)):=⟨y,h3,z⟩;clear z h3 h0 h7 h8 he;generalize Co.costs k c=co at*;go_wp2_with fail;go_ret3;exact hR.out _ _ ⟨rfl,HE.out⟩
  have cs:=oQ wr z h3 h0;have d:=h0.cost he;have y2:(((Co.steps k c).ph:Int) != 0)=true:=by simpa using he
  have h4:Hid (∀ j,j<k+1->(Co.steps j c).ph≠0):=fun j hj=>by
   by_cases e:j=k
   ·rw [e];exact he
   exact HB.out j (by omega)
  have x7:=Co.oD HH.out (k+1) h4.out;have x4:Hid (Co.costs (k+1) c=Co.costs k c+(Co.steps k c).step.1):=rfl;have h5:Calls prog 95 #[.pointer (some ⟨b,0,none⟩)] wr (fun e w'=>e=.returned (.tuple #[.int .i64 (Co.steps k c).step.1,.int .i64 0])/\∃ y:GX5,y.ok (Co.steps (k+1) c)/\Fam w0 w' (G5 b (Co.steps (k+1) c) y ++ l)):=cs.mono fun e w' ⟨h1,h2⟩=>⟨by rw [h1,d.2.2],h2⟩;have x9:=d.1;have y0:=d.2.1;clear cs z h3 h0 he d h8;generalize (Co.steps (k+1) c).mu=m1 at*;generalize c.mu=m2 at*;generalize (Co.steps k c).ph=y5 at*;generalize (Co.steps k c).step.1=sc at*;generalize Co.costs k c=co at*;go_wp2_with fail;refine h5.mono ?_;rintro e w1 ⟨rfl,x1,x2,h6⟩;have HE:Hid (∃ y:GX5,y.ok (Co.steps (k+1) c)/\Fam w0 w1 (G5 b (Co.steps (k+1) c) y ++ l)):=⟨x1,x2,h6⟩;clear h5 x2 h6;go_wp2;exact ⟨⟨k+1,by go_num,by rw [x4.out],HE.out,h4⟩,by simp [intOf];omega⟩
theorem zG (w:World) (hf:Fam w0 w (G5 b c x ++ l)) (hx:x.ok c) (h:c.Ok) (n:Int) (hn:0<=n/\n<=10000):Calls prog 172 #[.pointer (some ⟨b,0,none⟩),.int .i64 n] w (fun e w'=>e=.returned (.int .i64 (c.give n).1)/\∃ y:GX5,y.ok (c.give n).2/\Fam w0 w' (G5 b (c.give n).2 y ++ l)):=by
 refine aF fun R hR=>?_;unfold Co.give at hR;obtain ⟨_,_,_,x3,x4,_,_,_,_,xf⟩:=bF.cells hf
 by_cases hp:c.ph=0
 ·rw [if_pos hp] at hR;rw [hp] at x3;have HE:Hid (∃ y:GX5,y.ok c/\Fam w0 w (G5 b c y ++ l)):=⟨x,hx,hf⟩;have a7:Hid (w.cell? ⟨b,3,none⟩=some (.int .i64 ((0:Nat):Int))):=x3;clear hf hx h hp;go_in;go_wp2;go_loopw [5] (fun iv wr=>iv=.int .i64 0/\wr=w) (fun _ _=>0)
  case atStart=>exact ⟨rfl,rfl⟩
  case round=>as_aux_lemma=>
   obtain ⟨rfl,rfl⟩:=hrel;go_wp2;exact hR.out _ _ ⟨rfl,HE.out⟩
 rw [if_neg hp] at hR;have HD:=aA (h.k.more hp hn.1);have z2:=h.k.cr1;have y9:=h.cr2;have z5:((c.ph:Int) != 0)=true:=by simpa using hp
 have z6:=xf 4;have F1:Hid (∃ y:GX5,y.ok (c.more n)/\Fam w0 (w.setCell ⟨b,4,none⟩ (.int .i64 (c.cr+n))) (G5 b (c.more n) y ++ l)):=⟨x,⟨hx.on,hx.mv,hx.m0,hx.mv2⟩,G5.aEl hf (c.cr+n)⟩;have x9:Hid ((c.more n).cr<=10060):=by show c.cr+n<=10060;omega
 have x5:=(Co.fO HD.out).2.2;have y2:(c.more n).gives<=10061:=by
  have h2:=x9.out;unfold Co.nu at x5;split at x5<;>omega
 have x8:=aA y2;clear hf hx h hp xf x5 y2;generalize c.cr=cr at*;generalize c.ph=ph at*;go_in;go_upto_region 4 with fail;generalize w.setCell ⟨b,4,none⟩ (.int .i64 (cr+n))=w1 at*;generalize c.more n=d at*;clear x3 x4 z6 z5 z2 y9 hn;go_loopw [5] (fun iv wr=>∃ k:Nat,iv=.int .i64 k/\(∃ y:GX5,y.ok (Co.pays k d)/\Fam w0 wr (G5 b (Co.pays k d) y ++ l))/\Hid (∀ j,j<k->¬ (Co.pays j d).stops)) (fun iv _=>20000 - (intOf iv).toNat)
 case atStart=>exact ⟨0,rfl,F1.out,fun j hj=>by omega⟩
 case round=>as_aux_lemma=>
  clear F1;obtain ⟨k,rfl,⟨y,h5,h4⟩,HB⟩:=hrel;obtain ⟨z,x6,x2⟩:=Co.tJ HD.out k HB.out;have z3:=z.cr1;have z4:(Co.pays k d).cr<=10060:=by have:=x9.out;omega
  have a4:k<=10061:=by
   have h1:=x8.out;rcases Nat.lt_or_ge d.gives k with h2|h2
   ·exact absurd (Co.fO HD.out).1 (HB.out _ h2)
   omega
  obtain ⟨_,_,_,x3,x4,_,_,_,_,xf⟩:=bF.cells h4;have h8:Hid (∃ y:GX5,y.ok (Co.pays k d)/\Fam w0 wr (G5 b (Co.pays k d) y ++ l)):=⟨y,h5,h4⟩
  by_cases he:(Co.pays k d).ph=0
  ·have hg:=Co.rV HD.out HB.out (.inl he);rw [<-hg] at hR;rw [he] at x3;clear h4 h5 z x6 x2 he hg xf z3 z4;go_wp2;exact hR.out _ _ ⟨rfl,h8.out⟩
  have cc:=aKz wr h4 h5 z;have h7:=z.cost he;have h6:=aA h5;have z8:=aA z;have a3:(((Co.pays k d).ph:Int) != 0)=true:=by simpa using he
  have a1:=h7.1;have a2:=h7.2.1
  by_cases y7:(Co.pays k d).cr<(Co.pays k d).step.1
  ·have hg:=Co.rV HD.out HB.out (.inr y7);rw [<-hg] at hR;clear h4 h5 z x6 x2 he hg xf h7;generalize (Co.pays k d).step.2.1=er at*;generalize (Co.pays k d).step.1=sc at*;generalize h9:(Co.pays k d).cr=cr at*;generalize z0:(Co.pays k d).ph=ph at*;go_wp2_with fail;refine cc.mono ?_;rintro e w2 ⟨rfl,h0⟩;obtain ⟨_,_,_,y3,y4,_⟩:=bF.cells h0;rw [h9] at y4;have HE:Hid (∃ y:GX5,y.ok (Co.pays k d)/\Fam w0 w2 (G5 b (Co.pays k d) y ++ l)):=⟨y,h6.out,h0⟩;clear cc h0 x3 x4 h8;go_wp2;exact hR.out _ _ ⟨rfl,HE.out⟩
  have y5:¬ (Co.pays k d).stops:=fun e=>by rcases e with e|e;exact he e;exact y7 e
  have x7:Hid (∀ j,j<k+1->¬ (Co.pays j d).stops):=fun j hj=>by
   by_cases e:j=k
   ·rw [e];exact y5
   exact HB.out j (by omega)
  have a6:k<d.gives:=by
   rcases Nat.lt_or_ge k d.gives with h1|h1
   ·exact h1
   exact absurd (Co.fO HD.out).1 (x7.out _ (by
    rcases Nat.eq_or_lt_of_le h1 with h2|h2
    ·omega
    omega))
  have y0:Hid (Co.pays (k+1) d=({ Co.pays k d with cr:=(Co.pays k d).cr - (Co.pays k d).step.1 }:Co).step.2.2):=rfl;have z1:Hid (({ Co.pays k d with cr:=(Co.pays k d).cr - (Co.pays k d).step.1 }:Co).Okc):=z.zU he (by omega);have z9:Hid ((Co.pays k d).ph≠0):=he;have a5:=x8.out;clear h4 h5 z x6 x2 he xf h7 y5 h8;generalize (Co.pays k d).step.2.1=er at*;generalize y6:(Co.pays k d).step.1=sc at*;have a0:=aA y6;clear y6;generalize h9:(Co.pays k d).cr=cr at*;generalize z0:(Co.pays k d).ph=ph at*;go_wp2_with fail;refine cc.mono ?_;rintro e w2 ⟨rfl,h0⟩;obtain ⟨_,_,_,y3,y4,_,_,_,_,yf⟩:=bF.cells h0;rw [h9] at y4;have z7:=yf 4;have F3:Hid (Fam w0 (w2.setCell ⟨b,4,none⟩ (.int .i64 (cr - sc))) (G5 b { Co.pays k d with cr:=cr - sc } y ++ l)):=G5.aEl h0 (cr - sc);clear cc h0 x3 x4 yf;go_upto_region 8 with fail;generalize w2.setCell ⟨b,4,none⟩ (.int .i64 (cr - sc))=w3 at*;have cs:=oQ w3 F3.out ⟨h6.out.on,h6.out.mv,h6.out.m0,h6.out.mv2⟩ z1.out;clear y3 y4 z7 F3;replace cs:Calls prog 95 #[.pointer (some ⟨b,0,none⟩)] w3 (fun e w'=>∃ a b',e=.returned (.tuple #[.int .i64 a,.int .i64 b'])/\∃ y:GX5,y.ok (Co.pays (k+1) d)/\Fam w0 w' (G5 b (Co.pays (k+1) d) y ++ l)):=cs.mono fun e w' ⟨h1,x1,h2,h3⟩=>⟨_,_,h1,x1,by rw [y0.out];exact h2,by rw [y0.out];exact h3⟩;go_wp2_with fail;refine cs.mono ?_;rintro e w4 ⟨ra,rb,rfl,x1,y8,y1⟩;have HE:Hid (∃ y:GX5,y.ok (Co.pays (k+1) d)/\Fam w0 w4 (G5 b (Co.pays (k+1) d) y ++ l)):=⟨x1,y8,y1⟩;clear cs y8 y1;go_wp2;exact ⟨⟨k+1,by go_num,HE.out,x7⟩,by simp [intOf];omega⟩
theorem aHI (w:World) (hf:Fam w0 w (G5 b c x ++ l)) (hx:x.ok c) (h:c.Ok) (n:Int):Calls prog 96 #[.pointer (some ⟨b,0,none⟩),.int .i64 n] w (qK w0 l b (c.fZ n)):=by
 refine aF fun R z=>?_;unfold Co.fZ at z
 by_cases y:n<0\/10000<n
 ·rw [if_pos y] at z;have HE:Hid (qK w0 l b (0,1,c) (.returned (.tuple #[.int .i64 0,.int .i64 1])) w):=⟨rfl,x,hx,hf⟩;clear hf hx h
  by_cases b1:n<0
  ·clear y;go_in;go_wp2;exact z.out _ _ HE.out
  have b2:10000<n:=by omega
  clear y;go_in;go_wp2;exact z.out _ _ HE.out
 rw [if_neg y] at z;have b1:¬ n<0:=by omega
 have b2:¬ 10000<n:=by omega
 have cg:=zG w hf hx h n ⟨by omega,by omega⟩;clear hf hx h y;go_in;go_wp2_with fail;refine cg.mono ?_;rintro e w1 ⟨rfl,x1,h0,d⟩;have HE:Hid (qK w0 l b ((c.give n).1,0,(c.give n).2) (.returned (.tuple #[.int .i64 (c.give n).1,.int .i64 0])) w1):=⟨rfl,x1,h0,d⟩;clear cg h0 d;go_wp2;exact z.out _ _ HE.out
end
section
variable {w0 w:World} {l:List Asn} {b:Nat} {c:Co} {x:CX} {i:Nat}
theorem aAb (w:World) (z:Fam w0 w (C5 b c x ++ l)) (hx:x.ok c) (h:c.Okc):Calls prog 302 #[.agg #[.int .i64 3],.pointer (some ⟨b,0,none⟩)] w (aBd w0 l b c.gZ):=by
 refine aF fun R hR=>?_;have F0:Hid (Fam w0 (w.alloc (.cells #[.int .i64 3] 163)) (C5 b c x ++ (l ++ [eG w.heap.size 163 [.int .i64 3]]))):=z.addRow 163 [.int .i64 3];have h4:=hx.mv2;obtain ⟨s,hs⟩:∃ s,s=c.m.white:=⟨_,rfl⟩;have HS:Hid (s=c.m.white):=hs;have x2:s.length<=192:=by rw [hs];exact wZ c.m
 have h3:Hid (∀ k,k<s.length->wfI (gI s k)):=fun k hk=>aIA (h.hf.ok.inR ((Mk.yM h.hf.ok).1 (by rw [<-hs];exact kR.2 ⟨k,hk,rfl⟩)).1);have h1:Hid (c.gZ=c.dV s):=by show _=_;unfold Co.gZ;rw [hs]
 rw [h1.out] at hR;have HR:Hid (∀ w' v,Fam w0 w' (C5 b (c.dV s).2 { x with sv:=v } ++ l)->R (.returned (.int .i64 1)) w'):=fun w' v h2=>hR.out _ _ ⟨rfl,{ x with sv:=v },⟨fun e=>by (cases e),fun e=>by (cases e),h4⟩,h2⟩;clear z h hR hx h4 hs h1;go_in;go_upto_region 1 with fail;obtain ⟨g,hg⟩:∃ g,g=w.heap.size:=⟨_,rfl⟩;rw [<-hg] at F0 ⊢;have r0:=C5.last F0.out;have y0:=r0.cell 0 rfl;obtain ⟨_,_,_,_,_,_,_,_,_,_,xf⟩:=dB.cells F0.out;have x3:=xf 5;have d:Hid (Fam w0 ((w.alloc (.cells #[.int .i64 3] 163)).setCell ⟨b,5,none⟩ (.int .i64 3)) (C5 b { c with ph:=3 } x ++ (l ++ [eG g 163 [.int .i64 3]]))):=C5.sZ F0.out 3;have r1:=C5.last d.out;have y1:=r1.cell 0 rfl;have x4:=(dB.cells d.out).2.2.2.2.1;have cw:=aHc _ (C5.t2 (b:=b) (c:={ c with ph:=3 }) (x:=x) (l:=l ++ [eG g 163 [.int .i64 3]])) (hb:=x.hb) (p:=x.p) (m:=c.m) d.out;rw [<-HS.out] at cw;generalize w.alloc (.cells #[.int .i64 3] 163)=w1 at*;clear r0 r1 xf hg;go_upto_region 7 with fail;generalize w1.setCell ⟨b,5,none⟩ (.int .i64 3)=w2 at*;clear y0 x3 F0;go_wp2_with fail;refine cw.mono ?_;rintro e w3 ⟨v,rfl,hi,ho⟩;have x5:=((dB.cells (d.out.aN ho)).2.2.2.2.2.2.2.2.2.2) 8;have h9:=(dB.cells (d.out.aN ho)).2.2.2.2.2.2.2.2.1;have F3:Hid (Fam w0 (w3.setCell ⟨b,8,none⟩ v) (C5 b { c with ph:=3,sw:=s } { x with sv:=v } ++ (l ++ [eG g 163 [.int .i64 3]]))):=C5.aGz d.out ho hi;obtain ⟨va,vc,hv⟩:=hi.len;subst hv;have x8:=(dB.cells F3.out).2.2.2.2.2.2.2.2.1;have r3:=C5.last F3.out;have y3:=r3.cell 0 rfl;clear hi ho cw x4 y1 d r3;obtain ⟨n,hn⟩:∃ n,n=s.length:=⟨_,rfl⟩;have HN:=aA hn;rw [<-hn] at F3 h3 x2 x8 ⊢;clear hn HS;go_upto_region 8 with fail;generalize w3.setCell ⟨b,8,none⟩ (.slice va n vc)=w4 at*;clear x5 h9;go_wp2;go_loopw [43] (fun iv wr=>∃ k:Nat,k<=n/\iv=.int .i64 k/\Fam w0 wr (C5 b { c with ph:=3,sw:=s,m:=c.m.put (c.m.M.cZ s k) } { x with sv:=.slice va n vc } ++ (l ++ [eG g 163 [.int .i64 3]]))) (fun iv _=>n - (intOf iv).toNat)
 case atStart=>exact ⟨0,by omega,rfl,F3.out⟩
 case round=>as_aux_lemma=>
  clear F3 x8 y3;obtain ⟨k,hk,rfl,z⟩:=hrel
  by_cases h7:k<n
  ·have h8:(k:Int)<(n:Int):=by omega
   have x6:(0:Int)<=(k:Int):=by omega
   have h6:k<s.length:=by rw [<-HN.out];exact h7
   have h5:=(C5.sw z).read;obtain ⟨vb,vo,rfl,x1⟩:=h5.at (k:=k) h6;have cb:=aIf wr z (gI s k) (h3.out k h7);have h0:Hid (∀ w',Fam w0 w' (C5 b ({ c with ph:=3,sw:=s,m:=c.m.put (c.m.M.cZ s k) }.pI (Mk.put { c with ph:=3,sw:=s,m:=c.m.put (c.m.M.cZ s k) }.m (Hp.blank { c with ph:=3,sw:=s,m:=c.m.put (c.m.M.cZ s k) }.m.M (gI s k)))) { x with sv:=.slice (some ⟨vb,vo,none⟩) n vc } ++ (l ++ [eG g 163 [.int .i64 3]]))->Fam w0 w' (C5 b { c with ph:=3,sw:=s,m:=c.m.put (c.m.M.cZ s (k+1)) } { x with sv:=.slice (some ⟨vb,vo,none⟩) n vc } ++ (l ++ [eG g 163 [.int .i64 3]]))):=fun w' hw=>hw;clear h5 z h6;generalize gI s k=y at*;go_wp2_with fail;refine cb.mono ?_;rintro e w2 ⟨rfl,z⟩;have F2:=aA (h0.out _ z);clear cb z h0 x1;go_wp2;exact ⟨⟨k+1,by omega,by go_num,F2.out⟩,by simp [intOf];omega⟩
  obtain rfl:k=n:=by omega
  have h8:¬ (k:Int)<(k:Int):=by omega
  have F5:Hid (Fam w0 wr (C5 b (c.dV s).2 { x with sv:=.slice va k vc } ++ l)):=by
   have f4:Fam w0 wr ((C5 b { c with ph:=3,sw:=s,m:=c.m.put (c.m.M.cZ s k) } { x with sv:=.slice va k vc } ++ l) ++ [eG g 163 [.int .i64 3]]):=z;have f5:=f4.pop;rw [HN.out] at f5 ⊢;exact f5
  clear z;go_wp2_with fail;exact HR.out _ _ F5.out
theorem aFd (w:World) (hf:Fam w0 w (C5 b c x ++ l)) (hx:x.ok c):Calls prog 302 #[.agg #[.int .i64 4],.pointer (some ⟨b,0,none⟩)] w (aBd w0 l b (1,{ c with ph:=4,mv:=0 })):=by
 refine aF fun R d=>?_;have y:Hid (Fam w0 (w.alloc (.cells #[.int .i64 4] 163)) (C5 b c x ++ (l ++ [eG w.heap.size 163 [.int .i64 4]]))):=hf.addRow 163 [.int .i64 4];have HR:Hid (∀ w',Fam w0 w' (C5 b { c with ph:=4,mv:=0 } { x with mv:=0 } ++ l)->R (.returned (.int .i64 1)) w'):=fun w' h2=>d.out _ _ ⟨rfl,_,⟨fun e=>by (cases e),fun e=>rfl,Nat.zero_le _⟩,h2⟩;clear hf d hx;go_in;go_upto_region 1 with fail;obtain ⟨g,hg⟩:∃ g,g=w.heap.size:=⟨_,rfl⟩;rw [<-hg] at y ⊢;have r0:=C5.last y.out;have y0:=r0.cell 0 rfl;have h3:=((dB.cells y.out).2.2.2.2.2.2.2.2.2.2) 5;have h0:=(dB.cells y.out).2.2.2.2.2.1;have z:Hid (Fam w0 ((w.alloc (.cells #[.int .i64 4] 163)).setCell ⟨b,5,none⟩ (.int .i64 4)) (C5 b { c with ph:=4 } x ++ (l ++ [eG g 163 [.int .i64 4]]))):=C5.sZ y.out 4;have r1:=C5.last z.out;have y1:=r1.cell 0 rfl;have h4:=((dB.cells z.out).2.2.2.2.2.2.2.2.2.2) 9;have h1:=(dB.cells z.out).2.2.2.2.2.2.2.2.2.1;have F2:Hid (Fam w0 (((w.alloc (.cells #[.int .i64 4] 163)).setCell ⟨b,5,none⟩ (.int .i64 4)).setCell ⟨b,9,none⟩ (.int .i64 0)) (C5 b { c with ph:=4,mv:=0 } { x with mv:=0 } ++ l)):=by
  have f2:Fam w0 _ ((C5 b { c with ph:=4,mv:=0 } { x with mv:=0 } ++ l) ++ [eG g 163 [.int .i64 4]]):=C5.aLR z.out 0;exact f2.pop
 clear y z r0 r1 hg;generalize w.alloc (.cells #[.int .i64 4] 163)=w1 at*;go_wp2_with fail;exact HR.out _ F2.out
theorem aAc (w:World) (hf:Fam w0 w (C5 b c x ++ l)) (hx:x.ok c):Calls prog 302 #[.agg #[.int .i64 0],.pointer (some ⟨b,0,none⟩)] w (aBd w0 l b (1,{ c with ph:=0,cr:=0 })):=by
 refine aF fun R hR=>?_;have y:Hid (Fam w0 (w.alloc (.cells #[.int .i64 0] 163)) (C5 b c x ++ (l ++ [eG w.heap.size 163 [.int .i64 0]]))):=hf.addRow 163 [.int .i64 0];have d:=hx.mv2;have HR:Hid (∀ w',Fam w0 w' (C5 b { c with ph:=0,cr:=0 } x ++ l)->R (.returned (.int .i64 1)) w'):=fun w' h2=>hR.out _ _ ⟨rfl,_,⟨fun e=>by (cases e),fun e=>by (cases e),d⟩,h2⟩;clear hf hR hx d;go_in;go_upto_region 1 with fail;obtain ⟨g,hg⟩:∃ g,g=w.heap.size:=⟨_,rfl⟩;rw [<-hg] at y ⊢;have r0:=C5.last y.out;have y0:=r0.cell 0 rfl;have h3:=((dB.cells y.out).2.2.2.2.2.2.2.2.2.2) 5;have h0:=(dB.cells y.out).2.2.2.2.2.1;have z:Hid (Fam w0 ((w.alloc (.cells #[.int .i64 0] 163)).setCell ⟨b,5,none⟩ (.int .i64 0)) (C5 b { c with ph:=0 } x ++ (l ++ [eG g 163 [.int .i64 0]]))):=C5.sZ y.out 0;have r1:=C5.last z.out;have y1:=r1.cell 0 rfl;have h4:=((dB.cells z.out).2.2.2.2.2.2.2.2.2.2) 6;have h1:=(dB.cells z.out).2.2.2.2.2.2.1;have F2:Hid (Fam w0 (((w.alloc (.cells #[.int .i64 0] 163)).setCell ⟨b,5,none⟩ (.int .i64 0)).setCell ⟨b,6,none⟩ (.int .i64 0)) (C5 b { c with ph:=0,cr:=0 } x ++ l)):=by
  have f2:Fam w0 _ ((C5 b { c with ph:=0,cr:=0 } x ++ l) ++ [eG g 163 [.int .i64 0]]):=C5.aEl z.out 0;exact f2.pop
 clear y z r0 r1 hg;generalize w.alloc (.cells #[.int .i64 0] 163)=w1 at*;go_wp2_with fail;exact HR.out _ F2.out
theorem aLH (h:c.Okc) (y:c.ph=2) (hx:x.ok c) (ht:c.t.ph≠0):((c.t.step c.m).2.2.1=0->x.ok c.stepT)/\((c.t.step c.m).2.2.1≠0->CX.ok { x with ov:=true } c.stepT):=by
 obtain ⟨h1,z,d⟩:=h.stepT y;refine ⟨fun e=>⟨fun _=>?_,fun e=>absurd (show c.ph=4 from e) (by omega),hx.mv2⟩,fun e=>⟨fun _=>(decide_eq_true (z e)).symm,fun e=>absurd (show c.ph=4 from e) (by omega),hx.mv2⟩⟩;rw [hx.ov y,decide_eq_false ht,decide_eq_false (d e)]
theorem aLu {t:Tb} {m:Mk} (h:t.Good m) (y:m.Ok):(t.step m).1=3->wfI (t.step m).2.1:=by
 unfold Tb.step;split
 ·intro e;cases e
 simp only;split
 ·intro _;exact aBk y
 split
 ·intro e;cases e
 rename_i z _;intro e;exact absurd (show ((t.settle m).ph:Int)=3 from e) (by omega)
theorem aEt (w:World) (hf:Fam w0 w (C5 b c x ++ l)) (hx:x.ok c) (h:c.Okc) (hp:c.ph=2) (ht:c.t.ph≠0):Calls prog 307 #[.agg #[],.pointer (some ⟨b,0,none⟩)] w (aBd w0 l b c.refs):=by
 refine aF fun R d=>?_;obtain ⟨k1,k2,k3⟩:=h.stepT hp;obtain ⟨o1,o2⟩:=aLH h hp hx ht;have HF:=aA hf;have HG:=aA h.tg;have HM:=aA (h.mo (.inr hp));have h5:=aLu h.tg (h.mo (.inr hp));have HC:Hid (∀ wx,Fam w0 wx (C5 b c x ++ l)->Calls prog 68 #[.pointer (some ⟨x.tb,0,none⟩),.pointer (some ⟨x.p,0,none⟩)] wx (fun e w'=>e=.returned (.tuple #[.int .i64 (c.t.step c.m).1,.int .i64 (c.t.step c.m).2.1,.int .i64 (c.t.step c.m).2.2.1])/\Fam w0 w' (C5 b c.stepT x ++ l))):=fun wx hx=>aIE wx (C5.t3 (b:=b) (c:=c) (x:=x) (l:=l)) (hb:=x.hb) (p:=x.p) (b:=x.tb) (m:=c.m) (t:=c.t) hx HG.out HM.out;have h1:Hid (c.stepT.ph=2):=hp;have h8:c.stepT.m.M.len=c.m.M.len:=by rw [show c.stepT.m.M=c.m.M from (h.tg.step (h.mo (.inr hp))).2.2.1]
 rw [Co.eY] at d;obtain ⟨s1,h9⟩:∃ s,s=(c.t.step c.m).1:=⟨_,rfl⟩;obtain ⟨s2,x1⟩:∃ s,s=(c.t.step c.m).2.1:=⟨_,rfl⟩;obtain ⟨s3,x2⟩:∃ s,s=(c.t.step c.m).2.2.1:=⟨_,rfl⟩;rw [<-h9,<-x1,<-x2] at HC;rw [<-h9,<-x1,<-x2] at d;rw [<-h9,<-x1] at h5;rw [<-x2] at k2 k3 o1 o2;clear hf h hx ht hp h9 x1 x2
 by_cases he:s3=0
 ·subst he;rw [if_pos rfl] at d;have HO:=aA (o1 rfl);have y0:=fF k1.hf.ok s2;clear o1 o2 k2 k3
  by_cases h3:s1=3
  ·subst h3;rw [if_pos rfl] at d;have HW:=aA (h5 rfl);have HR:Hid (∀ w',Fam w0 w' (C5 b c.stepT x ++ l)->R (.returned (.int .i64 (1+c.stepT.m.M.len s2))) w'):=fun w' h2=>d.out _ _ ⟨by rw [h8],x,HO.out,h2⟩;clear d h5 h8 k1;generalize x7:c.stepT.m.M.len s2=n at*;have x8:=aA x7;clear x7;go_in;go_upto_region 1 with fail;have z:=aA (C5.alloc HF.out (.cells #[] 218));generalize w.alloc (.cells #[] 218)=w1 at*;clear HF;go_region_held3 (fun w'=>w'.cell? ⟨b,3,none⟩=some (.pointer (some ⟨x.tb,0,none⟩))/\w'.cell? ⟨b,4,none⟩=some (.pointer (some ⟨x.p,0,none⟩)))
    (first|(exact ⟨(C5.row z.out).cell 3 rfl,(C5.row z.out).cell 4 rfl⟩)|(exact ⟨(C5.row y).cell 3 rfl,(C5.row y).cell 4 rfl⟩))
    (first|(go_at_call 68;refine (HC.out _ z.out.drew).mono ?_;rintro e w3 ⟨rfl,y⟩))
   have F3:=aA y;have cl:=kC w3 y s2 HW.out;rw [x8.out] at cl;clear y HC z;go_wp2_with fail;refine cl.mono ?_;rintro e _ ⟨rfl,k,rfl⟩;have F4:=aA (F3.out.drewN k);clear cl F3;go_wp2_with fail;exact HR.out _ F4.out
  rw [if_neg h3] at d;have y1:(s1 == 3)=false:=by simpa using h3
  have HR:Hid (∀ w',Fam w0 w' (C5 b c.stepT x ++ l)->R (.returned (.int .i64 1)) w'):=fun w' h2=>d.out _ _ ⟨rfl,x,HO.out,h2⟩;clear d h5 h8 k1 h3 y0;go_in;go_upto_region 1 with fail;have z:=aA (C5.alloc HF.out (.cells #[] 218));generalize w.alloc (.cells #[] 218)=w1 at*;clear HF;go_region_held3 (fun w'=>w'.cell? ⟨b,3,none⟩=some (.pointer (some ⟨x.tb,0,none⟩))/\w'.cell? ⟨b,4,none⟩=some (.pointer (some ⟨x.p,0,none⟩)))
   (first|(exact ⟨(C5.row z.out).cell 3 rfl,(C5.row z.out).cell 4 rfl⟩)|(exact ⟨(C5.row y).cell 3 rfl,(C5.row y).cell 4 rfl⟩))
   (first|(go_at_call 68;refine (HC.out _ z.out.drew).mono ?_;rintro e w3 ⟨rfl,y⟩))
  have F3:=aA y;clear y HC z;go_wp2_with fail;exact HR.out _ F3.out
 rw [if_neg he] at d;have y2:(s3 != 0)=true:=by simpa using he
 have HO:=aA (o2 he);have x9:=aA (k2 he);have h7:=aA k1;clear o1 o2 k2 k3 k1 h5 h8;have x6:=aA d.out;have h0:c.stepT.kJ=if c.stepT.m.list=[] then .iface 163 (.agg #[.int .i64 3]) else .iface 157 (.agg #[]):=by
  unfold Co.kJ;rw [if_neg (by rw [h1.out];decide),if_pos h1.out,if_neg (by rw [x9.out];exact fun e=>e rfl)]
 unfold Co.tail at d
 by_cases hl:c.stepT.m.list=[]
 ·rw [if_pos hl] at d h0;have x3:=aA h0;clear hl h0 x6 he;go_in;go_upto_region 1 with fail;have z:=aA (C5.alloc HF.out (.cells #[] 218));generalize w.alloc (.cells #[] 218)=w1 at*;clear HF;go_region_held3 (fun w'=>w'.cell? ⟨b,3,none⟩=some (.pointer (some ⟨x.tb,0,none⟩))/\w'.cell? ⟨b,4,none⟩=some (.pointer (some ⟨x.p,0,none⟩)))
   (first|(exact ⟨(C5.row z.out).cell 3 rfl,(C5.row z.out).cell 4 rfl⟩)|(exact ⟨(C5.row y).cell 3 rfl,(C5.row y).cell 4 rfl⟩))
   (first|(go_at_call 68;refine (HC.out _ z.out.drew).mono ?_;rintro e w3 ⟨rfl,y⟩))
  have x5:=((dB.cells y).2.2.2.2.2.2.2.2.2.2) 7;have x4:=(dB.cells y).2.2.2.2.2.2.2.1;have F4:Hid (Fam w0 (w3.setCell ⟨b,7,none⟩ (.bool true)) (C5 b c.stepT { x with ov:=true } ++ l)):=C5.aOh y true;clear y HC z;go_upto_region 4 with fail;generalize w3.setCell ⟨b,7,none⟩ (.bool true)=w4 at*;have cn:=bP w4 F4.out h7.out HO.out (by rw [h1.out];decide);rw [x3.out] at cn;clear x5 x4;go_wp2_with fail;refine cn.mono ?_;rintro e _ ⟨rfl,k,rfl⟩;have F5:=aA (F4.out.drewN k);generalize w4.drewN k=w5 at*;have cb:=aAb w5 F5.out HO.out h7.out;clear cn F4;go_wp2_with fail;refine cb.mono ?_;rintro e w6 ⟨rfl,x',h6,h4⟩;have HE:Hid (aBd w0 l b c.stepT.gZ (.returned (.int .i64 c.stepT.gZ.1)) w6):=⟨rfl,x',h6,h4⟩;clear cb h6 h4 F5;go_wp2;exact d.out _ _ HE.out
 rw [if_neg hl] at d h0;have x3:=aA h0;clear hl h0 x6 he;go_in;go_upto_region 1 with fail;have z:=aA (C5.alloc HF.out (.cells #[] 218));generalize w.alloc (.cells #[] 218)=w1 at*;clear HF;go_region_held3 (fun w'=>w'.cell? ⟨b,3,none⟩=some (.pointer (some ⟨x.tb,0,none⟩))/\w'.cell? ⟨b,4,none⟩=some (.pointer (some ⟨x.p,0,none⟩)))
  (first|(exact ⟨(C5.row z.out).cell 3 rfl,(C5.row z.out).cell 4 rfl⟩)|(exact ⟨(C5.row y).cell 3 rfl,(C5.row y).cell 4 rfl⟩))
  (first|(go_at_call 68;refine (HC.out _ z.out.drew).mono ?_;rintro e w3 ⟨rfl,y⟩))
 have x5:=((dB.cells y).2.2.2.2.2.2.2.2.2.2) 7;have x4:=(dB.cells y).2.2.2.2.2.2.2.1;have F4:Hid (Fam w0 (w3.setCell ⟨b,7,none⟩ (.bool true)) (C5 b c.stepT { x with ov:=true } ++ l)):=C5.aOh y true;clear y HC z;go_upto_region 4 with fail;generalize w3.setCell ⟨b,7,none⟩ (.bool true)=w4 at*;have cn:=bP w4 F4.out h7.out HO.out (by rw [h1.out];decide);rw [x3.out] at cn;clear x5 x4;go_wp2_with fail;refine cn.mono ?_;rintro e _ ⟨rfl,k,rfl⟩;have F5:=aA (F4.out.drewN k);generalize w4.drewN k=w5 at*;have cb:=tY w5 F5.out HO.out (h7.out.mo (.inr h1.out));clear cn F4;go_wp2_with fail;refine cb.mono ?_;rintro e w6 ⟨rfl,x',h6,h4⟩;have HE:Hid (aBd w0 l b c.stepT.mark (.returned (.int .i64 c.stepT.mark.1)) w6):=⟨rfl,x',h6,h4⟩;clear cb h6 h4 F5;go_wp2;exact d.out _ _ HE.out
end
end Go.Proofs.YthflghdaejbdkaaGreat
