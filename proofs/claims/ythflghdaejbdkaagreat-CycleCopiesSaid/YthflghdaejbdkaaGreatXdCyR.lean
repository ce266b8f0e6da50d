/- Lemmas of this claim. -/
import Derived.Test.YthflghdaejbdkaaGreatXdCyGE
import Derived.Test.YthflghdaejbdkaaGreatXdTbG
namespace Go.Proofs.YthflghdaejbdkaaGreat
open _root_.Go.Proofs.Tryz (prog)
open Go.RowKit Go.Maps
set_option maxHeartbeats 6400000
set_option maxRecDepth 100000
set_option linter.unusedVariables false
def pK (w0:World) (l:List Asn) (b:Nat) (r:Int×Int×Co) (e:Ending) (w':World):Prop:=e=.returned (.tuple #[.int .i64 r.1,.int .i64 r.2.1])/\∃ x':GX5,x'.ok r.2.2/\Fam w0 w' (G5 b r.2.2 x' ++ l)
section
variable {w0 w w':World} {l:List Asn} {b:Nat} {c:Co} {x:GX5} {i:Nat} {m:Mk} {t:Tb}
theorem aDZ (w:World) (hf:Fam w0 w (G5 b c x ++ l)) (hx:x.ok c) (h:c.Okc):Calls prog 97 #[.pointer (some ⟨b,0,none⟩)] w (fun e w'=>e=.returned (.tuple #[.int .i64 c.finish.1,.int .i64 c.finish.2.1,.int .i64 c.finish.2.2.1])/\∃ x':GX5,x'.ok c.finish.2.2.2/\Fam w0 w' (G5 b c.finish.2.2.2 x' ++ l)):=by
 refine aF fun R hR=>?_;unfold Co.finish at hR;have HH:=aA h;have x3:=(aY.cells hf).2.2.2.1
 by_cases hp:c.ph=0
 ·rw [if_pos hp] at hR;rw [hp] at x3;have HE:Hid (∃ x':GX5,x'.ok c/\Fam w0 w (G5 b c x' ++ l)):=⟨x,hx,hf⟩;clear hf hx h hp;go_in;go_wp2_with fail;go_ret3;exact hR.out _ _ ⟨rfl,HE.out⟩
 rw [if_neg hp] at hR;have hpb:((c.ph:Int) == 0)=false:=by simpa using hp
 have HF:Hid (∃ x':GX5,x'.ok c/\Fam w0 w (G5 b c x' ++ l)):=⟨x,hx,hf⟩;have HP:=aA hp;have HMU:=aA (Co.aKN h);clear hf hx h hp;generalize hph:c.ph=ph0 at*;have HPH:=aA hph;clear hph;go_in;go_upto_region 5 with fail;clear x3 hpb;go_wp2_with fail;go_loopw [5,6] (fun iv jv wr=>∃ k:Nat,iv=.int .i64 k/\jv=.int .i64 (Co.costs k c)/\(∃ x':GX5,x'.ok (Co.steps k c)/\Fam w0 wr (G5 b (Co.steps k c) x' ++ l))/\Hid (∀ j,j<k->(Co.steps j c).ph≠0)) (fun iv _ _=>40000 - (intOf iv).toNat)
 case atStart=>exact ⟨0,rfl,rfl,HF.out,fun j hj=>by omega⟩
 case round=>as_aux_lemma=>
  clear HF;obtain ⟨k,rfl,rfl,⟨x',hx',hf'⟩,HB⟩:=hrel;have hok:=HH.out.steps k;have hmu:=Co.nK HH.out k HB.out;have hcl:=Co.aBh HH.out k;have hk:k<=30192:=by have:=HMU.out;omega
  have y3:=(aY.cells hf').2.2.2.1
  by_cases he:(Co.steps k c).ph=0
  ·have hfi:=Co.aEe HH.out HB.out he;rw [he] at y3;rw [<-hfi] at hR;have HE:Hid (∃ x':GX5,x'.ok (Co.steps k c)/\Fam w0 wr (G5 b (Co.steps k c) x' ++ l)):=⟨x',hx',hf'⟩;clear hf' hx' hok hfi hmu he;generalize Co.costs k c=co at*;go_wp2_with fail;go_ret3;exact hR.out _ _ ⟨rfl,HE.out⟩
  have cs:=nX wr hf' hx' hok;have hco:=hok.cost he;have heb:(((Co.steps k c).ph:Int) != 0)=true:=by simpa using he
  have HBN:Hid (∀ j,j<k+1->(Co.steps j c).ph≠0):=fun j hj=>by
   by_cases e:j=k
   ·rw [e];exact he
   exact HB.out j (by omega)
  have hmu2:=Co.nK HH.out (k+1) HBN.out;have HCO:Hid (Co.costs (k+1) c=Co.costs k c+(Co.steps k c).step.1):=rfl;have cs2:Calls prog 95 #[.pointer (some ⟨b,0,none⟩)] wr (fun e w'=>e=.returned (.tuple #[.int .i64 (Co.steps k c).step.1,.int .i64 0])/\∃ x':GX5,x'.ok (Co.steps (k+1) c)/\Fam w0 w' (G5 b (Co.steps (k+1) c) x' ++ l)):=cs.mono fun e w' ⟨h1,h2⟩=>⟨by rw [h1,hco.2.2],h2⟩;have hc1:=hco.1;have hc2:=hco.2.1;clear cs hf' hx' hok he hco hmu;generalize (Co.steps (k+1) c).mu=m1 at*;generalize c.mu=m2 at*;generalize (Co.steps k c).ph=phk at*;generalize (Co.steps k c).step.1=sc at*;generalize Co.costs k c=co at*;go_wp2_with fail;refine cs2.mono ?_;rintro e w1 ⟨rfl,x1,hx1,hf1⟩;have HE:Hid (∃ x':GX5,x'.ok (Co.steps (k+1) c)/\Fam w0 w1 (G5 b (Co.steps (k+1) c) x' ++ l)):=⟨x1,hx1,hf1⟩;clear cs2 hx1 hf1;go_wp2_with fail;exact ⟨⟨k+1,by go_num,by rw [HCO.out],HE.out,HBN⟩,by simp [intOf];omega⟩
theorem yF (w:World) (hf:Fam w0 w (G5 b c x ++ l)) (hx:x.ok c) (h:c.Ok) (n:Int) (hn:0<=n/\n<=10000):Calls prog 172 #[.pointer (some ⟨b,0,none⟩),.int .i64 n] w (fun e w'=>e=.returned (.int .i64 (c.give n).1)/\∃ x':GX5,x'.ok (c.give n).2/\Fam w0 w' (G5 b (c.give n).2 x' ++ l)):=by
 refine aF fun R hR=>?_;unfold Co.give at hR;obtain ⟨_,_,_,x3,x4,_,_,_,_,xf⟩:=aY.cells hf
 by_cases hp:c.ph=0
 ·rw [if_pos hp] at hR;rw [hp] at x3;have HE:Hid (∃ x':GX5,x'.ok c/\Fam w0 w (G5 b c x' ++ l)):=⟨x,hx,hf⟩;have x3':Hid (w.cell? ⟨b,3,none⟩=some (.int .i64 ((0:Nat):Int))):=x3;clear hf hx h hp;go_in;go_wp2_with fail;go_loopw [5] (fun iv wr=>iv=.int .i64 0/\wr=w) (fun _ _=>0)
  case atStart=>exact ⟨rfl,rfl⟩
  case round=>as_aux_lemma=>
   obtain ⟨rfl,rfl⟩:=hrel;go_wp2_with fail;exact hR.out _ _ ⟨rfl,HE.out⟩
 rw [if_neg hp] at hR;have HD:=aA (h.k.more hp hn.1);have aQB:=h.k.cr1;have hcr2:=h.cr2;have hpb:((c.ph:Int) != 0)=true:=by simpa using hp
 have x4f:=xf 4;have F1:Hid (∃ x':GX5,x'.ok (c.more n)/\Fam w0 (w.setCell ⟨b,4,none⟩ (.int .i64 (c.cr+n))) (G5 b (c.more n) x' ++ l)):=⟨x,⟨hx.on,hx.mv,hx.m0,hx.mv2⟩,G5.aDu hf (c.cr+n)⟩;have HMX:Hid ((c.more n).cr<=10060):=by show c.cr+n<=10060;omega
 have hgu:=(Co.gK HD.out).2.2;have hgb:(c.more n).gives<=10061:=by
  have h2:=HMX.out;unfold Co.nu at hgu;split at hgu<;>omega
 have HGB:=aA hgb;clear hf hx h hp xf hgu hgb;generalize c.cr=cr at*;generalize c.ph=ph at*;go_in;go_upto_region 4 with fail;generalize w.setCell ⟨b,4,none⟩ (.int .i64 (cr+n))=w1 at*;generalize c.more n=d at*;clear x3 x4 x4f hpb aQB hcr2 hn;go_loopw [5] (fun iv wr=>∃ k:Nat,iv=.int .i64 k/\(∃ x':GX5,x'.ok (Co.pays k d)/\Fam w0 wr (G5 b (Co.pays k d) x' ++ l))/\Hid (∀ j,j<k->¬ (Co.pays j d).stops)) (fun iv _=>20000 - (intOf iv).toNat)
 case atStart=>exact ⟨0,rfl,F1.out,fun j hj=>by omega⟩
 case round=>as_aux_lemma=>
  clear F1;obtain ⟨k,rfl,⟨x',hx',hf'⟩,HB⟩:=hrel;obtain ⟨hok,hnu,hcm⟩:=Co.wP HD.out k HB.out;have hcr:=hok.cr1;have hcx:(Co.pays k d).cr<=10060:=by have:=HMX.out;omega
  have hkb:k<=10061:=by
   have h1:=HGB.out;rcases Nat.lt_or_ge d.gives k with h2|h2
   ·exact absurd (Co.gK HD.out).1 (HB.out _ h2)
   omega
  obtain ⟨_,_,_,x3,x4,_,_,_,_,xf⟩:=aY.cells hf';have HEX:Hid (∃ x':GX5,x'.ok (Co.pays k d)/\Fam w0 wr (G5 b (Co.pays k d) x' ++ l)):=⟨x',hx',hf'⟩
  by_cases he:(Co.pays k d).ph=0
  ·have hg:=Co.vO HD.out HB.out (.inl he);rw [<-hg] at hR;rw [he] at x3;clear hf' hx' hok hnu hcm he hg xf hcr hcx;go_wp2_with fail;exact hR.out _ _ ⟨rfl,HEX.out⟩
  have cc:=aCL wr hf' hx' hok;have hco:=hok.cost he;have HX':=aA hx';have HOK:=aA hok;have heb:(((Co.pays k d).ph:Int) != 0)=true:=by simpa using he
  have hc1:=hco.1;have hc2:=hco.2.1
  by_cases hst:(Co.pays k d).cr<(Co.pays k d).step.1
  ·have hg:=Co.vO HD.out HB.out (.inr hst);rw [<-hg] at hR;clear hf' hx' hok hnu hcm he hg xf hco;generalize (Co.pays k d).step.2.1=er at*;generalize (Co.pays k d).step.1=sc at*;generalize aNl:(Co.pays k d).cr=cr at*;generalize aQm:(Co.pays k d).ph=ph at*;go_wp2_with fail;refine cc.mono ?_;rintro e w2 ⟨rfl,hf2⟩;obtain ⟨_,_,_,y3,y4,_⟩:=aY.cells hf2;rw [aNl] at y4;have HE:Hid (∃ x':GX5,x'.ok (Co.pays k d)/\Fam w0 w2 (G5 b (Co.pays k d) x' ++ l)):=⟨x',HX'.out,hf2⟩;clear cc hf2 x3 x4 HEX;go_wp2_with fail;exact hR.out _ _ ⟨rfl,HE.out⟩
  have hns:¬ (Co.pays k d).stops:=fun e=>by rcases e with e|e;exact he e;exact hst e
  have HBN:Hid (∀ j,j<k+1->¬ (Co.pays j d).stops):=fun j hj=>by
   by_cases e:j=k
   ·rw [e];exact hns
   exact HB.out j (by omega)
  have hkn:k<d.gives:=by
   rcases Nat.lt_or_ge k d.gives with h1|h1
   ·exact h1
   exact absurd (Co.gK HD.out).1 (HBN.out _ (by
    rcases Nat.eq_or_lt_of_le h1 with h2|h2
    ·omega
    omega))
  have aPi:Hid (Co.pays (k+1) d=({ Co.pays k d with cr:=(Co.pays k d).cr - (Co.pays k d).step.1 }:Co).step.2.2):=rfl;have aRe:Hid (({ Co.pays k d with cr:=(Co.pays k d).cr - (Co.pays k d).step.1 }:Co).Okc):=hok.aFf he (by omega);have HPH:Hid ((Co.pays k d).ph≠0):=he;have hkg:=HGB.out;clear hf' hx' hok hnu hcm he xf hco hns HEX;generalize (Co.pays k d).step.2.1=er at*;generalize hsc:(Co.pays k d).step.1=sc at*;have HSC:=aA hsc;clear hsc;generalize aNl:(Co.pays k d).cr=cr at*;generalize aQm:(Co.pays k d).ph=ph at*;go_wp2_with fail;refine cc.mono ?_;rintro e w2 ⟨rfl,hf2⟩;obtain ⟨_,_,_,y3,y4,_,_,_,_,yf⟩:=aY.cells hf2;rw [aNl] at y4;have y4f:=yf 4;have F3:Hid (Fam w0 (w2.setCell ⟨b,4,none⟩ (.int .i64 (cr - sc))) (G5 b { Co.pays k d with cr:=cr - sc } x' ++ l)):=G5.aDu hf2 (cr - sc);clear cc hf2 x3 x4 yf;go_upto_region 8 with fail;generalize w2.setCell ⟨b,4,none⟩ (.int .i64 (cr - sc))=w3 at*;have cs:=nX w3 F3.out ⟨HX'.out.on,HX'.out.mv,HX'.out.m0,HX'.out.mv2⟩ aRe.out;clear y3 y4 y4f F3;replace cs:Calls prog 95 #[.pointer (some ⟨b,0,none⟩)] w3 (fun e w'=>∃ a b',e=.returned (.tuple #[.int .i64 a,.int .i64 b'])/\∃ x':GX5,x'.ok (Co.pays (k+1) d)/\Fam w0 w' (G5 b (Co.pays (k+1) d) x' ++ l)):=cs.mono fun e w' ⟨h1,x1,h2,h3⟩=>⟨_,_,h1,x1,by rw [aPi.out];exact h2,by rw [aPi.out];exact h3⟩;go_wp2_with fail;refine cs.mono ?_;rintro e w4 ⟨ra,rb,rfl,x1,hx1,hf1⟩;have HE:Hid (∃ x':GX5,x'.ok (Co.pays (k+1) d)/\Fam w0 w4 (G5 b (Co.pays (k+1) d) x' ++ l)):=⟨x1,hx1,hf1⟩;clear cs hx1 hf1;go_wp2_with fail;exact ⟨⟨k+1,by go_num,HE.out,HBN⟩,by simp [intOf];omega⟩
theorem aGF (w:World) (hf:Fam w0 w (G5 b c x ++ l)) (hx:x.ok c) (h:c.Ok) (n:Int):Calls prog 96 #[.pointer (some ⟨b,0,none⟩),.int .i64 n] w (pK w0 l b (c.jF n)):=by
 refine aF fun R hR=>?_;unfold Co.jF at hR
 by_cases hbad:n<0\/10000<n
 ·rw [if_pos hbad] at hR;have HE:Hid (pK w0 l b (0,1,c) (.returned (.tuple #[.int .i64 0,.int .i64 1])) w):=⟨rfl,x,hx,hf⟩;clear hf hx h
  by_cases b1:n<0
  ·clear hbad;go_in;go_wp2_with fail;exact hR.out _ _ HE.out
  have b2:10000<n:=by omega
  clear hbad;go_in;go_wp2_with fail;exact hR.out _ _ HE.out
 rw [if_neg hbad] at hR;have b1:¬ n<0:=by omega
 have b2:¬ 10000<n:=by omega
 have cg:=yF w hf hx h n ⟨by omega,by omega⟩;clear hf hx h hbad;go_in;go_wp2_with fail;refine cg.mono ?_;rintro e w1 ⟨rfl,x1,hx1,hf1⟩;have HE:Hid (pK w0 l b ((c.give n).1,0,(c.give n).2) (.returned (.tuple #[.int .i64 (c.give n).1,.int .i64 0])) w1):=⟨rfl,x1,hx1,hf1⟩;clear cg hx1 hf1;go_wp2_with fail;exact hR.out _ _ HE.out
end
section
variable {w0 w:World} {l:List Asn} {b:Nat} {c:Co} {x:CX} {i:Nat}
theorem yU (w:World) (hf:Fam w0 w (C5 b c x ++ l)) (hx:x.ok c) (h:c.Okc):Calls prog 302 #[.agg #[.int .i64 3],.pointer (some ⟨b,0,none⟩)] w (aAw w0 l b c.jJ):=by
 refine aF fun R hR=>?_;have F0:Hid (Fam w0 (w.alloc (.cells #[.int .i64 3] 163)) (C5 b c x ++ (l ++ [dZ w.heap.size 163 [.int .i64 3]]))):=hf.addRow 163 [.int .i64 3];have aDg:=hx.mv2;obtain ⟨s,hs⟩:∃ s,s=c.m.white:=⟨_,rfl⟩;have HS:Hid (s=c.m.white):=hs;have hwl:s.length<=192:=by rw [hs];exact vV c.m
 have HWF:Hid (∀ k,k<s.length->wfI (gI s k)):=fun k hk=>aHs (h.hf.ok.inR ((Mk.aCl h.hf.ok).1 (by rw [<-hs];exact jQ.2 ⟨k,hk,rfl⟩)).1);have HSB:Hid (c.jJ=c.gX s):=by show _=_;unfold Co.jJ;rw [hs]
 rw [HSB.out] at hR;have HR:Hid (∀ w' v,Fam w0 w' (C5 b (c.gX s).2 { x with sv:=v } ++ l)->R (.returned (.int .i64 1)) w'):=fun w' v h2=>hR.out _ _ ⟨rfl,{ x with sv:=v },⟨fun e=>by (cases e),fun e=>by (cases e),aDg⟩,h2⟩;clear hf h hR hx aDg hs HSB;go_in;go_upto_region 1 with fail;obtain ⟨g,hg⟩:∃ g,g=w.heap.size:=⟨_,rfl⟩;rw [<-hg] at F0 ⊢;have r0:=C5.last F0.out;have y0:=r0.cell 0 rfl;obtain ⟨_,_,_,_,_,_,_,_,_,_,xf⟩:=bY.cells F0.out;have x5f:=xf 5;have F1:Hid (Fam w0 ((w.alloc (.cells #[.int .i64 3] 163)).setCell ⟨b,5,none⟩ (.int .i64 3)) (C5 b { c with ph:=3 } x ++ (l ++ [dZ g 163 [.int .i64 3]]))):=C5.rX F0.out 3;have r1:=C5.last F1.out;have y1:=r1.cell 0 rfl;have x4:=(bY.cells F1.out).2.2.2.2.1;have cw:=aFZ _ (C5.t2 (b:=b) (c:={ c with ph:=3 }) (x:=x) (l:=l ++ [dZ g 163 [.int .i64 3]])) (hb:=x.hb) (p:=x.p) (m:=c.m) F1.out;rw [<-HS.out] at cw;generalize w.alloc (.cells #[.int .i64 3] 163)=w1 at*;clear r0 r1 xf hg;go_upto_region 7 with fail;generalize w1.setCell ⟨b,5,none⟩ (.int .i64 3)=w2 at*;clear y0 x5f F0;go_wp2_with fail;refine cw.mono ?_;rintro e w3 ⟨v,rfl,hi,ho⟩;have x8f:=((bY.cells (F1.out.aN ho)).2.2.2.2.2.2.2.2.2.2) 8;have aSb:=(bY.cells (F1.out.aN ho)).2.2.2.2.2.2.2.2.1;have F3:Hid (Fam w0 (w3.setCell ⟨b,8,none⟩ v) (C5 b { c with ph:=3,sw:=s } { x with sv:=v } ++ (l ++ [dZ g 163 [.int .i64 3]]))):=C5.aFB F1.out ho hi;obtain ⟨va,vc,hv⟩:=hi.len;subst hv;have x8:=(bY.cells F3.out).2.2.2.2.2.2.2.2.1;have r3:=C5.last F3.out;have y3:=r3.cell 0 rfl;clear hi ho cw x4 y1 F1 r3;obtain ⟨n,hn⟩:∃ n,n=s.length:=⟨_,rfl⟩;have HN:=aA hn;rw [<-hn] at F3 HWF hwl x8 ⊢;clear hn HS;go_upto_region 8 with fail;generalize w3.setCell ⟨b,8,none⟩ (.slice va n vc)=w4 at*;clear x8f aSb;go_wp2_with fail;go_loopw [43] (fun iv wr=>∃ k:Nat,k<=n/\iv=.int .i64 k/\Fam w0 wr (C5 b { c with ph:=3,sw:=s,m:=c.m.put (c.m.M.dA s k) } { x with sv:=.slice va n vc } ++ (l ++ [dZ g 163 [.int .i64 3]]))) (fun iv _=>n - (intOf iv).toNat)
 case atStart=>exact ⟨0,by omega,rfl,F3.out⟩
 case round=>as_aux_lemma=>
  clear F3 x8 y3;obtain ⟨k,hk,rfl,hf⟩:=hrel
  by_cases hlt:k<n
  ·have hlt1:(k:Int)<(n:Int):=by omega
   have hk0:(0:Int)<=(k:Int):=by omega
   have hks:k<s.length:=by rw [<-HN.out];exact hlt
   have h43:=(C5.sw hf).read;obtain ⟨vb,vo,rfl,hcl⟩:=h43.at (k:=k) hks;have cb:=aHb wr hf (gI s k) (HWF.out k hlt);have HF2:Hid (∀ w',Fam w0 w' (C5 b ({ c with ph:=3,sw:=s,m:=c.m.put (c.m.M.dA s k) }.oH (Mk.put { c with ph:=3,sw:=s,m:=c.m.put (c.m.M.dA s k) }.m (Hp.blank { c with ph:=3,sw:=s,m:=c.m.put (c.m.M.dA s k) }.m.M (gI s k)))) { x with sv:=.slice (some ⟨vb,vo,none⟩) n vc } ++ (l ++ [dZ g 163 [.int .i64 3]]))->Fam w0 w' (C5 b { c with ph:=3,sw:=s,m:=c.m.put (c.m.M.dA s (k+1)) } { x with sv:=.slice (some ⟨vb,vo,none⟩) n vc } ++ (l ++ [dZ g 163 [.int .i64 3]]))):=fun w' hw=>hw;clear h43 hf hks;generalize gI s k=y at*;go_wp2_with fail;refine cb.mono ?_;rintro e w2 ⟨rfl,hf⟩;have F2:=aA (HF2.out _ hf);clear cb hf HF2 hcl;go_wp2_with fail;exact ⟨⟨k+1,by omega,by go_num,F2.out⟩,by simp [intOf];omega⟩
  obtain rfl:k=n:=by omega
  have hlt1:¬ (k:Int)<(k:Int):=by omega
  have F5:Hid (Fam w0 wr (C5 b (c.gX s).2 { x with sv:=.slice va k vc } ++ l)):=by
   have f4:Fam w0 wr ((C5 b { c with ph:=3,sw:=s,m:=c.m.put (c.m.M.dA s k) } { x with sv:=.slice va k vc } ++ l) ++ [dZ g 163 [.int .i64 3]]):=hf;have f5:=f4.pop;rw [HN.out] at f5 ⊢;exact f5
  clear hf;go_wp2_with fail;exact HR.out _ _ F5.out
theorem aEm (w:World) (hf:Fam w0 w (C5 b c x ++ l)) (hx:x.ok c):Calls prog 302 #[.agg #[.int .i64 4],.pointer (some ⟨b,0,none⟩)] w (aAw w0 l b (1,{ c with ph:=4,mv:=0 })):=by
 refine aF fun R hR=>?_;have F0:Hid (Fam w0 (w.alloc (.cells #[.int .i64 4] 163)) (C5 b c x ++ (l ++ [dZ w.heap.size 163 [.int .i64 4]]))):=hf.addRow 163 [.int .i64 4];have HR:Hid (∀ w',Fam w0 w' (C5 b { c with ph:=4,mv:=0 } { x with mv:=0 } ++ l)->R (.returned (.int .i64 1)) w'):=fun w' h2=>hR.out _ _ ⟨rfl,_,⟨fun e=>by (cases e),fun e=>rfl,Nat.zero_le _⟩,h2⟩;clear hf hR hx;go_in;go_upto_region 1 with fail;obtain ⟨g,hg⟩:∃ g,g=w.heap.size:=⟨_,rfl⟩;rw [<-hg] at F0 ⊢;have r0:=C5.last F0.out;have y0:=r0.cell 0 rfl;have x5f:=((bY.cells F0.out).2.2.2.2.2.2.2.2.2.2) 5;have aSc:=(bY.cells F0.out).2.2.2.2.2.1;have F1:Hid (Fam w0 ((w.alloc (.cells #[.int .i64 4] 163)).setCell ⟨b,5,none⟩ (.int .i64 4)) (C5 b { c with ph:=4 } x ++ (l ++ [dZ g 163 [.int .i64 4]]))):=C5.rX F0.out 4;have r1:=C5.last F1.out;have y1:=r1.cell 0 rfl;have x9f:=((bY.cells F1.out).2.2.2.2.2.2.2.2.2.2) 9;have aTm:=(bY.cells F1.out).2.2.2.2.2.2.2.2.2.1;have F2:Hid (Fam w0 (((w.alloc (.cells #[.int .i64 4] 163)).setCell ⟨b,5,none⟩ (.int .i64 4)).setCell ⟨b,9,none⟩ (.int .i64 0)) (C5 b { c with ph:=4,mv:=0 } { x with mv:=0 } ++ l)):=by
  have f2:Fam w0 _ ((C5 b { c with ph:=4,mv:=0 } { x with mv:=0 } ++ l) ++ [dZ g 163 [.int .i64 4]]):=C5.aKz F1.out 0;exact f2.pop
 clear F0 F1 r0 r1 hg;generalize w.alloc (.cells #[.int .i64 4] 163)=w1 at*;go_wp2_with fail;exact HR.out _ F2.out
theorem yV (w:World) (hf:Fam w0 w (C5 b c x ++ l)) (hx:x.ok c):Calls prog 302 #[.agg #[.int .i64 0],.pointer (some ⟨b,0,none⟩)] w (aAw w0 l b (1,{ c with ph:=0,cr:=0 })):=by
 refine aF fun R hR=>?_;have F0:Hid (Fam w0 (w.alloc (.cells #[.int .i64 0] 163)) (C5 b c x ++ (l ++ [dZ w.heap.size 163 [.int .i64 0]]))):=hf.addRow 163 [.int .i64 0];have aDg:=hx.mv2;have HR:Hid (∀ w',Fam w0 w' (C5 b { c with ph:=0,cr:=0 } x ++ l)->R (.returned (.int .i64 1)) w'):=fun w' h2=>hR.out _ _ ⟨rfl,_,⟨fun e=>by (cases e),fun e=>by (cases e),aDg⟩,h2⟩;clear hf hR hx aDg;go_in;go_upto_region 1 with fail;obtain ⟨g,hg⟩:∃ g,g=w.heap.size:=⟨_,rfl⟩;rw [<-hg] at F0 ⊢;have r0:=C5.last F0.out;have y0:=r0.cell 0 rfl;have x5f:=((bY.cells F0.out).2.2.2.2.2.2.2.2.2.2) 5;have aSc:=(bY.cells F0.out).2.2.2.2.2.1;have F1:Hid (Fam w0 ((w.alloc (.cells #[.int .i64 0] 163)).setCell ⟨b,5,none⟩ (.int .i64 0)) (C5 b { c with ph:=0 } x ++ (l ++ [dZ g 163 [.int .i64 0]]))):=C5.rX F0.out 0;have r1:=C5.last F1.out;have y1:=r1.cell 0 rfl;have x6f:=((bY.cells F1.out).2.2.2.2.2.2.2.2.2.2) 6;have aTn:=(bY.cells F1.out).2.2.2.2.2.2.1;have F2:Hid (Fam w0 (((w.alloc (.cells #[.int .i64 0] 163)).setCell ⟨b,5,none⟩ (.int .i64 0)).setCell ⟨b,6,none⟩ (.int .i64 0)) (C5 b { c with ph:=0,cr:=0 } x ++ l)):=by
  have f2:Fam w0 _ ((C5 b { c with ph:=0,cr:=0 } x ++ l) ++ [dZ g 163 [.int .i64 0]]):=C5.aDu F1.out 0;exact f2.pop
 clear F0 F1 r0 r1 hg;generalize w.alloc (.cells #[.int .i64 0] 163)=w1 at*;go_wp2_with fail;exact HR.out _ F2.out
theorem aKq (h:c.Okc) (hp:c.ph=2) (hx:x.ok c) (ht:c.t.ph≠0):((c.t.step c.m).2.2.1=0->x.ok c.stepT)/\((c.t.step c.m).2.2.1≠0->CX.ok { x with ov:=true } c.stepT):=by
 obtain ⟨h1,h2,h3⟩:=h.stepT hp;refine ⟨fun e=>⟨fun _=>?_,fun e=>absurd (show c.ph=4 from e) (by omega),hx.mv2⟩,fun e=>⟨fun _=>(decide_eq_true (h2 e)).symm,fun e=>absurd (show c.ph=4 from e) (by omega),hx.mv2⟩⟩;rw [hx.ov hp,decide_eq_false ht,decide_eq_false (h3 e)]
theorem aKc {t:Tb} {m:Mk} (h:t.Good m) (hm:m.Ok):(t.step m).1=3->wfI (t.step m).2.1:=by
 unfold Tb.step;split
 ·intro e;cases e
 simp only;split
 ·intro _;exact aAD hm
 split
 ·intro e;cases e
 rename_i h3 _;intro e;exact absurd (show ((t.settle m).ph:Int)=3 from e) (by omega)
theorem aDC (w:World) (hf:Fam w0 w (C5 b c x ++ l)) (hx:x.ok c) (h:c.Okc) (hp:c.ph=2) (ht:c.t.ph≠0):Calls prog 307 #[.agg #[],.pointer (some ⟨b,0,none⟩)] w (aAw w0 l b c.refs):=by
 refine aF fun R hR=>?_;obtain ⟨k1,k2,k3⟩:=h.stepT hp;obtain ⟨o1,o2⟩:=aKq h hp hx ht;have HF:=aA hf;have HG:=aA h.tg;have HM:=aA (h.mo (.inr hp));have hwf:=aKc h.tg (h.mo (.inr hp));have HC:Hid (∀ wx,Fam w0 wx (C5 b c x ++ l)->Calls prog 68 #[.pointer (some ⟨x.tb,0,none⟩),.pointer (some ⟨x.p,0,none⟩)] wx (fun e w'=>e=.returned (.tuple #[.int .i64 (c.t.step c.m).1,.int .i64 (c.t.step c.m).2.1,.int .i64 (c.t.step c.m).2.2.1])/\Fam w0 w' (C5 b c.stepT x ++ l))):=fun wx hx=>aHw wx (C5.t3 (b:=b) (c:=c) (x:=x) (l:=l)) (hb:=x.hb) (p:=x.p) (b:=x.tb) (m:=c.m) (t:=c.t) hx HG.out HM.out;have HP2:Hid (c.stepT.ph=2):=hp;have hMl:c.stepT.m.M.len=c.m.M.len:=by rw [show c.stepT.m.M=c.m.M from (h.tg.step (h.mo (.inr hp))).2.2.1]
 rw [Co.iI] at hR;obtain ⟨s1,hs1⟩:∃ s,s=(c.t.step c.m).1:=⟨_,rfl⟩;obtain ⟨s2,hs2⟩:∃ s,s=(c.t.step c.m).2.1:=⟨_,rfl⟩;obtain ⟨s3,hs3⟩:∃ s,s=(c.t.step c.m).2.2.1:=⟨_,rfl⟩;rw [<-hs1,<-hs2,<-hs3] at HC;rw [<-hs1,<-hs2,<-hs3] at hR;rw [<-hs1,<-hs2] at hwf;rw [<-hs3] at k2 k3 o1 o2;clear hf h hx ht hp hs1 hs2 hs3
 by_cases he:s3=0
 ·subst he;rw [if_pos rfl] at hR;have HO:=aA (o1 rfl);have hlr:=eX k1.hf.ok s2;clear o1 o2 k2 k3
  by_cases h3:s1=3
  ·subst h3;rw [if_pos rfl] at hR;have HW:=aA (hwf rfl);have HR:Hid (∀ w',Fam w0 w' (C5 b c.stepT x ++ l)->R (.returned (.int .i64 (1+c.stepT.m.M.len s2))) w'):=fun w' h2=>hR.out _ _ ⟨by rw [hMl],x,HO.out,h2⟩;clear hR hwf hMl k1;generalize hnn:c.stepT.m.M.len s2=n at*;have HNN:=aA hnn;clear hnn;go_in;go_upto_region 1 with fail;have F1:=aA (C5.alloc HF.out (.cells #[] 218));generalize w.alloc (.cells #[] 218)=w1 at*;clear HF;go_region_held3 (fun w'=>w'.cell? ⟨b,3,none⟩=some (.pointer (some ⟨x.tb,0,none⟩))/\w'.cell? ⟨b,4,none⟩=some (.pointer (some ⟨x.p,0,none⟩)))
    (first|(exact ⟨(C5.row F1.out).cell 3 rfl,(C5.row F1.out).cell 4 rfl⟩)|(exact ⟨(C5.row f3).cell 3 rfl,(C5.row f3).cell 4 rfl⟩))
    (first|(go_at_call 68;refine (HC.out _ F1.out.drew).mono ?_;rintro e w3 ⟨rfl,f3⟩))
   have F3:=aA f3;have cl:=jW w3 f3 s2 HW.out;rw [HNN.out] at cl;clear f3 HC F1;go_wp2_with fail;refine cl.mono ?_;rintro e _ ⟨rfl,k,rfl⟩;have F4:=aA (F3.out.drewN k);clear cl F3;go_wp2_with fail;exact HR.out _ F4.out
  rw [if_neg h3] at hR;have h3b:(s1 == 3)=false:=by simpa using h3
  have HR:Hid (∀ w',Fam w0 w' (C5 b c.stepT x ++ l)->R (.returned (.int .i64 1)) w'):=fun w' h2=>hR.out _ _ ⟨rfl,x,HO.out,h2⟩;clear hR hwf hMl k1 h3 hlr;go_in;go_upto_region 1 with fail;have F1:=aA (C5.alloc HF.out (.cells #[] 218));generalize w.alloc (.cells #[] 218)=w1 at*;clear HF;go_region_held3 (fun w'=>w'.cell? ⟨b,3,none⟩=some (.pointer (some ⟨x.tb,0,none⟩))/\w'.cell? ⟨b,4,none⟩=some (.pointer (some ⟨x.p,0,none⟩)))
   (first|(exact ⟨(C5.row F1.out).cell 3 rfl,(C5.row F1.out).cell 4 rfl⟩)|(exact ⟨(C5.row f3).cell 3 rfl,(C5.row f3).cell 4 rfl⟩))
   (first|(go_at_call 68;refine (HC.out _ F1.out.drew).mono ?_;rintro e w3 ⟨rfl,f3⟩))
  have F3:=aA f3;clear f3 HC F1;go_wp2_with fail;exact HR.out _ F3.out
 rw [if_neg he] at hR;have heb:(s3 != 0)=true:=by simpa using he
 have HO:=aA (o2 he);have HT0:=aA (k2 he);have HK1:=aA k1;clear o1 o2 k2 k3 k1 hwf hMl;have HRR:=aA hR.out;have hnx:c.stepT.kE=if c.stepT.m.list=[] then .iface 163 (.agg #[.int .i64 3]) else .iface 157 (.agg #[]):=by
  unfold Co.kE;rw [if_neg (by rw [HP2.out];decide),if_pos HP2.out,if_neg (by rw [HT0.out];exact fun e=>e rfl)]
 unfold Co.tail at hR
 by_cases hl:c.stepT.m.list=[]
 ·rw [if_pos hl] at hR hnx;have HNX:=aA hnx;clear hl hnx HRR he;go_in;go_upto_region 1 with fail;have F1:=aA (C5.alloc HF.out (.cells #[] 218));generalize w.alloc (.cells #[] 218)=w1 at*;clear HF;go_region_held3 (fun w'=>w'.cell? ⟨b,3,none⟩=some (.pointer (some ⟨x.tb,0,none⟩))/\w'.cell? ⟨b,4,none⟩=some (.pointer (some ⟨x.p,0,none⟩)))
   (first|(exact ⟨(C5.row F1.out).cell 3 rfl,(C5.row F1.out).cell 4 rfl⟩)|(exact ⟨(C5.row f3).cell 3 rfl,(C5.row f3).cell 4 rfl⟩))
   (first|(go_at_call 68;refine (HC.out _ F1.out.drew).mono ?_;rintro e w3 ⟨rfl,f3⟩))
  have x7f:=((bY.cells f3).2.2.2.2.2.2.2.2.2.2) 7;have aPM:=(bY.cells f3).2.2.2.2.2.2.2.1;have F4:Hid (Fam w0 (w3.setCell ⟨b,7,none⟩ (.bool true)) (C5 b c.stepT { x with ov:=true } ++ l)):=C5.aMF f3 true;clear f3 HC F1;go_upto_region 4 with fail;generalize w3.setCell ⟨b,7,none⟩ (.bool true)=w4 at*;have cn:=bJ w4 F4.out HK1.out HO.out (by rw [HP2.out];decide);rw [HNX.out] at cn;clear x7f aPM;go_wp2_with fail;refine cn.mono ?_;rintro e _ ⟨rfl,k,rfl⟩;have F5:=aA (F4.out.drewN k);generalize w4.drewN k=w5 at*;have cb:=yU w5 F5.out HO.out HK1.out;clear cn F4;go_wp2_with fail;refine cb.mono ?_;rintro e w6 ⟨rfl,x',hx',hf'⟩;have HE:Hid (aAw w0 l b c.stepT.jJ (.returned (.int .i64 c.stepT.jJ.1)) w6):=⟨rfl,x',hx',hf'⟩;clear cb hx' hf' F5;go_wp2_with fail;exact hR.out _ _ HE.out
 rw [if_neg hl] at hR hnx;have HNX:=aA hnx;clear hl hnx HRR he;go_in;go_upto_region 1 with fail;have F1:=aA (C5.alloc HF.out (.cells #[] 218));generalize w.alloc (.cells #[] 218)=w1 at*;clear HF;go_region_held3 (fun w'=>w'.cell? ⟨b,3,none⟩=some (.pointer (some ⟨x.tb,0,none⟩))/\w'.cell? ⟨b,4,none⟩=some (.pointer (some ⟨x.p,0,none⟩)))
  (first|(exact ⟨(C5.row F1.out).cell 3 rfl,(C5.row F1.out).cell 4 rfl⟩)|(exact ⟨(C5.row f3).cell 3 rfl,(C5.row f3).cell 4 rfl⟩))
  (first|(go_at_call 68;refine (HC.out _ F1.out.drew).mono ?_;rintro e w3 ⟨rfl,f3⟩))
 have x7f:=((bY.cells f3).2.2.2.2.2.2.2.2.2.2) 7;have aPM:=(bY.cells f3).2.2.2.2.2.2.2.1;have F4:Hid (Fam w0 (w3.setCell ⟨b,7,none⟩ (.bool true)) (C5 b c.stepT { x with ov:=true } ++ l)):=C5.aMF f3 true;clear f3 HC F1;go_upto_region 4 with fail;generalize w3.setCell ⟨b,7,none⟩ (.bool true)=w4 at*;have cn:=bJ w4 F4.out HK1.out HO.out (by rw [HP2.out];decide);rw [HNX.out] at cn;clear x7f aPM;go_wp2_with fail;refine cn.mono ?_;rintro e _ ⟨rfl,k,rfl⟩;have F5:=aA (F4.out.drewN k);generalize w4.drewN k=w5 at*;have cb:=sJ w5 F5.out HO.out (HK1.out.mo (.inr HP2.out));clear cn F4;go_wp2_with fail;refine cb.mono ?_;rintro e w6 ⟨rfl,x',hx',hf'⟩;have HE:Hid (aAw w0 l b c.stepT.mark (.returned (.int .i64 c.stepT.mark.1)) w6):=⟨rfl,x',hx',hf'⟩;clear cb hx' hf' F5;go_wp2_with fail;exact hR.out _ _ HE.out
end
end Go.Proofs.YthflghdaejbdkaaGreat
