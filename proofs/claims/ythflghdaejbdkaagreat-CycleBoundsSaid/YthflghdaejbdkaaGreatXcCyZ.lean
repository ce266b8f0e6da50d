/- Lemmas of this claim. -/
import Derived.Test.YthflghdaejbdkaaGreatXcCyW
namespace Go.Proofs.YthflghdaejbdkaaGreat
open _root_.Go.Proofs.Tryz (prog)
open Go.RowKit Go.Maps
set_option maxHeartbeats 6400000
set_option maxRecDepth 100000
set_option linter.unusedVariables false
section
variable {w0 w:World} {l:List Asn} {b:Nat} {c:Co} {x:CX} {i:Nat}
theorem Fam.front {A:Asn} (h:Fam w0 w (l ++ [A])):Fam w0 w (A :: l):=by
 refine h.selC (fun k=>if k=0 then l.length else k - 1) (fun k Z hk=>?_) (fun j k hj hk hne=>?_)
 ·match k with
  | 0=>
   show (l ++ [A])[l.length]?=some Z;rw [jA];exact hk
  | k+1=>
   have y:l[k]?=some Z:=hk;simp only [show ¬ (k+1=0) by omega,if_false,Nat.add_sub_cancel];exact rF y
 rw [List.length_cons] at hj hk;split<;>split<;>omega
theorem aPC (w:World) (n:Int):Calls prog 43 #[.pointer none,.int .i64 n] w (aO w (.tuple #[.int .i64 0,.int .i64 1])):=by
 refine aF fun R z=>?_;have y:=sK w;go_in;go_wp2_with fail;refine y.mono ?_;rintro e _ ⟨rfl,rfl⟩;go_wp2;exact z.out _ _ ⟨rfl,rfl⟩
theorem aId (w:World) (d:Fam w0 w (C5 b c x ++ l)) (hx:x.ok c) (h:c.Ok) (n:Int):Calls prog 43 #[.pointer (some ⟨b,0,none⟩),.int .i64 n] w (gY w0 l b (c.fZ n)):=by
 refine aF fun R z=>?_;obtain ⟨_,_,x2,_⟩:=dB.cells d;have cn:=aJ w x2;unfold Co.fZ at z
 by_cases y:n<0\/10000<n
 ·rw [if_pos y] at z;have HE:Hid (gY w0 l b (0,1,c) (.returned (.tuple #[.int .i64 0,.int .i64 1])) w):=⟨rfl,x,hx,d⟩;clear d hx h
  by_cases b1:n<0
  ·clear y;go_in;go_wp2_with fail;refine cn.mono ?_;rintro e _ ⟨rfl,rfl⟩;go_wp2;exact z.out _ _ HE.out
  have b2:10000<n:=by omega
  clear y;go_in;go_wp2_with fail;refine cn.mono ?_;rintro e _ ⟨rfl,rfl⟩;go_wp2;exact z.out _ _ HE.out
 rw [if_neg y] at z;have b1:¬ n<0:=by omega
 have b2:¬ 10000<n:=by omega
 have cg:=lK w d hx h n ⟨by omega,by omega⟩;clear d hx h y;go_in;go_wp2_with fail;refine cn.mono ?_;rintro e _ ⟨rfl,rfl⟩;go_wp2_with fail;refine cg.mono ?_;rintro e w1 ⟨rfl,x1,h1,h0⟩;have HE:Hid (gY w0 l b ((c.give n).1,0,(c.give n).2) (.returned (.tuple #[.int .i64 (c.give n).1,.int .i64 0])) w1):=⟨rfl,x1,h1,h0⟩;clear cg h1 h0;go_wp2;exact z.out _ _ HE.out
theorem aNg (w:World) (d:Fam w0 w (C5 b c x ++ l)) (h:c.Okc) (y s:Int) (hy:wfI y):Calls prog 47 #[.pointer (some ⟨b,0,none⟩),.int .i64 y,.int .i64 s] w (Same w (.tuple #[.int .i64 (c.get y s).1,.int .i64 (c.get y s).2])):=by
 refine aF fun R z=>?_;obtain ⟨_,_,x2,_⟩:=dB.cells d;have cn:=aJ w x2;have ch:=fH w d h y hy;unfold Co.get at z
 cases hh:c.hid y with
 | true=>
  rw [hh] at ch z;replace z:Hid (∀ e w',Same w (.tuple #[.int .i64 0,.int .i64 3]) e w'->R e w'):=z;clear d h hh;go_in;go_wp2_with fail;refine cn.mono ?_;rintro e _ ⟨rfl,rfl⟩;go_wp2_with fail;refine ch.mono ?_;rintro e _ ⟨rfl,k,rfl⟩;go_wp2;exact z.out _ _ ⟨rfl,k,rfl⟩
 | false=>
  rw [hh] at ch z;replace z:Hid (∀ e w',Same w (.tuple #[.int .i64 (c.m.M.get y s).1,.int .i64 (c.m.M.get y s).2]) e w'->R e w'):=z;have HC:Hid (∀ n,(w.drewN n).cell? ⟨b,2,none⟩=some (.pointer (some ⟨x.hb,0,none⟩))/\Calls prog 122 #[.pointer (some ⟨x.hb,0,none⟩),.int .i64 y,.int .i64 s] (w.drewN n) (Same (w.drewN n) (.tuple #[.int .i64 (c.m.M.get y s).1,.int .i64 (c.m.M.get y s).2]))):=fun n=>by
   obtain ⟨hk,L,X,hp⟩:=C5.ph (d.drewN n);exact ⟨(dB.cells (d.drewN n)).2.2.1,aKu _ hp hk y s hy⟩
  clear d h hh;go_in;go_wp2_with fail;refine cn.mono ?_;rintro e _ ⟨rfl,rfl⟩;go_wp2_with fail;refine ch.mono ?_;rintro e _ ⟨rfl,k,rfl⟩;obtain ⟨z2,cg⟩:=HC.out k;clear ch HC x2;go_wp2_with fail;refine cg.mono ?_;rintro e w2 ⟨rfl,k2,rfl⟩;clear cg;go_wp2;exact z.out _ _ ⟨rfl,k+k2,rfl⟩
def aPG (w0:World) (l:List Asn) (b:Nat) (r:Int×Co) (e:Ending) (w':World):Prop:=e=.returned (.int .i64 r.1)/\∃ y:CX,y.ok r.2/\Fam w0 w' (C5 b r.2 y ++ l)
theorem aDH (w:World) (hf:Fam w0 w (C5 b c x ++ l)) (hx:x.ok c) (h:c.Okc) (y s v:Int) (hy:wfI y) (hv:wfI v) (hh:c.hid y=false) (hr:(c.m.M.isRef y s).1=true->c.hid v=false):Calls prog 52 #[.pointer (some ⟨b,0,none⟩),.int .i64 y,.int .i64 s,.int .i64 v] w (aPG w0 l b (c.store y s v)):=by
 refine aF fun R hR=>?_;obtain ⟨_,_,x2,_⟩:=dB.cells hf;have cn:=aJ w x2;have ch:=fH w hf h y hy;rw [hh] at ch;have h4:Hid (c.store y s v=if c.bar=true then ((c.m.store y s v).1,({ c with m:=(c.m.store y s v).2 }:Co)) else ((c.m.M.set y s v).1,({ c with m:=c.m.put (c.m.M.set y s v).2 }:Co))):=by
  show _=_;unfold Co.store;rw [if_neg (fun e=>by rcases e with e|e;rw [hh] at e;cases e;have:=hr e.1;rw [this] at e;cases e.2)]
 rw [h4.out] at hR;have HF:=aA hf;have HX:=aA hx;have HH:=aA h;have h3:=aA hy;have h2:=aA hv;clear hf hx h hy hv hh h4;go_in;go_wp2_with fail;refine cn.mono ?_;rintro e _ ⟨rfl,rfl⟩;clear cn;go_wp2_with fail;refine ch.mono ?_;rintro e _ ⟨rfl,k,rfl⟩;have F1:=aA (HF.out.drewN k);generalize w.drewN k=w1 at*;obtain ⟨_,_,z2,_⟩:=dB.cells F1.out;obtain ⟨h6,L1,X1,h7⟩:=C5.ph F1.out;have ci:=rJ w1 h7 h6 y s h3.out;clear ch x2 HF h6 h7;have HB:Hid (∀ d,Fam w0 d (C5 b c x ++ l)->Calls prog 117 #[.pointer (some ⟨b,0,none⟩)] d (aO d (.bool c.bar))):=fun d hx=>iD d hx HH.out;have HS:Hid (∀ d,Fam w0 d (C5 b c x ++ l)->Calls prog 127 #[.pointer (some ⟨x.hb,0,none⟩),.int .i64 y,.int .i64 s,.int .i64 v] d (fun e w'=>e=.returned (.int .i64 (c.m.M.set y s v).1)/\Fam w0 w' (C5 b (c.pI (c.m.put (c.m.M.set y s v).2)) x ++ l))):=fun d hx=>aFQ d hx y s v h3.out h2.out;have h1:Hid (c.bar=true->∀ d,Fam w0 d (C5 b c x ++ l)->Calls prog 126 #[.pointer (some ⟨x.p,0,none⟩),.int .i64 y,.int .i64 s,.int .i64 v] d (fun e w'=>e=.returned (.int .i64 (c.m.store y s v).1)/\Fam w0 w' (C5 b (c.pI (c.m.store y s v).2) x ++ l))):=fun hb d hx=>aHd d (C5.t2 (b:=b) (c:=c) (x:=x) (l:=l)) (hb:=x.hb) (p:=x.p) (m:=c.m) hx (HH.out.mo (bQ.1 hb)) y s v h3.out h2.out
 cases h0:(c.m.M.isRef y s).1 with
 | true=>
  have cv:Hid (∀ d,Fam w0 d (C5 b c x ++ l)->Calls prog 121 #[.pointer (some ⟨b,0,none⟩),.int .i64 v] d (Same d (.bool false))):=fun d hx=>by
   have:=fH d hx HH.out v h2.out;rw [hr h0] at this;exact this
  rw [h0] at ci;clear hr h0;generalize (c.m.M.isRef y s).2=re at*;go_wp2_with fail;refine ci.mono ?_;rintro e _ ⟨rfl,rfl⟩;have h5:=cv.out _ F1.out;clear ci cv;go_wp2_with fail;refine h5.mono ?_;rintro e _ ⟨rfl,k2,rfl⟩;have F2:=aA (F1.out.drewN k2);generalize w1.drewN k2=w2 at*;have cb:=HB.out w2 F2.out;obtain ⟨_,_,y2,_,y4,_⟩:=dB.cells F2.out;clear h5 F1 z2
  cases hb:c.bar with
  | true=>
   rw [hb] at cb hR;have cs:=h1.out hb w2 F2.out;clear hb HS;go_wp2_with fail;refine cb.mono ?_;rintro e _ ⟨rfl,rfl⟩;clear cb;go_wp2_with fail;refine cs.mono ?_;rintro e w3 ⟨rfl,z⟩;have HE:=aA z;clear cs z;go_wp2;exact hR.out _ _ ⟨rfl,x,⟨HX.out.ov,HX.out.mv,HX.out.mv2⟩,HE.out⟩
  | false=>
   rw [hb] at cb hR;have cs:=HS.out w2 F2.out;clear hb h1;go_wp2_with fail;refine cb.mono ?_;rintro e _ ⟨rfl,rfl⟩;clear cb;go_wp2_with fail;refine cs.mono ?_;rintro e w3 ⟨rfl,z⟩;have HE:=aA z;clear cs z;go_wp2;exact hR.out _ _ ⟨rfl,x,⟨HX.out.ov,HX.out.mv,HX.out.mv2⟩,HE.out⟩
 | false=>
  rw [h0] at ci;have cb:=HB.out w1 F1.out;obtain ⟨_,_,y2,_,y4,_⟩:=dB.cells F1.out;clear hr h0;generalize (c.m.M.isRef y s).2=re at *
  cases hb:c.bar with
  | true=>
   rw [hb] at cb hR;have cs:=h1.out hb w1 F1.out;clear hb HS;go_wp2_with fail;refine ci.mono ?_;rintro e _ ⟨rfl,rfl⟩;clear ci;go_wp2_with fail;refine cb.mono ?_;rintro e _ ⟨rfl,rfl⟩;clear cb;go_wp2_with fail;refine cs.mono ?_;rintro e w3 ⟨rfl,z⟩;have HE:=aA z;clear cs z;go_wp2;exact hR.out _ _ ⟨rfl,x,⟨HX.out.ov,HX.out.mv,HX.out.mv2⟩,HE.out⟩
  | false=>
   rw [hb] at cb hR;have cs:=HS.out w1 F1.out;clear hb h1;go_wp2_with fail;refine ci.mono ?_;rintro e _ ⟨rfl,rfl⟩;clear ci;go_wp2_with fail;refine cb.mono ?_;rintro e _ ⟨rfl,rfl⟩;clear cb;go_wp2_with fail;refine cs.mono ?_;rintro e w3 ⟨rfl,z⟩;have HE:=aA z;clear cs z;go_wp2;exact hR.out _ _ ⟨rfl,x,⟨HX.out.ov,HX.out.mv,HX.out.mv2⟩,HE.out⟩
theorem aHR (w:World) (d:Fam w0 w (C5 b c x ++ l)) (hx:x.ok c) (h:c.Okc) (y s v:Int) (hy:wfI y) (hv:wfI v):Calls prog 52 #[.pointer (some ⟨b,0,none⟩),.int .i64 y,.int .i64 s,.int .i64 v] w (aPG w0 l b (c.store y s v)):=by
 cases hh:c.hid y with
 | true=>
  refine aF fun R hR=>?_;obtain ⟨_,_,x2,_⟩:=dB.cells d;have cn:=aJ w x2;have ch:=fH w d h y hy;rw [hh] at ch;have z:Hid (c.store y s v=(3,c)):=by show _=_;unfold Co.store;rw [if_pos (.inl hh)]
  rw [z.out] at hR;have HF:=aA d;have HX:=aA hx;clear d hx h hh z;go_in;go_wp2_with fail;refine cn.mono ?_;rintro e _ ⟨rfl,rfl⟩;go_wp2_with fail;refine ch.mono ?_;rintro e _ ⟨rfl,k,rfl⟩;have F1:=aA (HF.out.drewN k);clear ch;go_wp2;exact hR.out _ _ ⟨rfl,x,HX.out,F1.out⟩
 | false=>
  by_cases hb:(c.m.M.isRef y s).1=true/\c.hid v=true
  ·refine aF fun R hR=>?_;obtain ⟨_,_,x2,_⟩:=dB.cells d;have cn:=aJ w x2;have ch:=fH w d h y hy;rw [hh] at ch;have z:Hid (c.store y s v=(3,c)):=by show _=_;unfold Co.store;rw [if_pos (.inr hb)]
   rw [z.out] at hR;have HF:=aA d;have HX:=aA hx;have HC:Hid (∀ wx,Fam w0 wx (C5 b c x ++ l)->Calls prog 125 #[.pointer (some ⟨x.hb,0,none⟩),.int .i64 y,.int .i64 s] wx (aO wx (.tuple #[.bool true,.int .i64 (c.m.M.isRef y s).2]))/\Calls prog 121 #[.pointer (some ⟨b,0,none⟩),.int .i64 v] wx (Same wx (.bool true))):=fun wx hx=>by
    obtain ⟨h0,L1,X1,h1⟩:=C5.ph hx;have c1:=rJ wx h1 h0 y s hy;have c2:=fH wx hx h v hv;rw [hb.1] at c1;rw [hb.2] at c2;exact ⟨c1,c2⟩
   generalize (c.m.M.isRef y s).2=re at*;clear d hx h hh z hb;go_in;go_wp2_with fail;refine cn.mono ?_;rintro e _ ⟨rfl,rfl⟩;go_wp2_with fail;refine ch.mono ?_;rintro e _ ⟨rfl,k,rfl⟩;have F1:=aA (HF.out.drewN k);generalize w.drewN k=w1 at*;obtain ⟨_,_,z2,_⟩:=dB.cells F1.out;obtain ⟨c1,c2⟩:=HC.out _ F1.out;clear ch x2;go_wp2_with fail;refine c1.mono ?_;rintro e _ ⟨rfl,rfl⟩;clear c1;go_wp2_with fail;refine c2.mono ?_;rintro e _ ⟨rfl,k2,rfl⟩;have F2:=aA (F1.out.drewN k2);clear c2;go_wp2;exact hR.out _ _ ⟨rfl,x,HX.out,F2.out⟩
  exact aDH w d hx h y s v hy hv hh (fun e=>by cases h2:c.hid v;rfl;exact absurd ⟨e,h2⟩ hb)
theorem aKS (w:World) (z:Fam w0 w (C5 b c x ++ l)):Calls prog 55 #[.pointer (some ⟨b,0,none⟩)] w (fun e w'=>∃ q,e=.returned (.pointer (some ⟨q,0,none⟩))/\Only [] w w'/\Fam w0 w' (C5 b c x ++ (l ++ [PH q c.m.M]))):=by
 refine aF fun R hR=>?_;obtain ⟨_,_,x2,_⟩:=dB.cells z;have cn:=aJ w x2;have d:=aEL w z;clear z;go_in;go_wp2_with fail;refine cn.mono ?_;rintro e _ ⟨rfl,rfl⟩;go_wp2_with fail;refine d.mono ?_;rintro e w1 ⟨q,rfl,ho,y⟩;have HE:=aA (And.intro ho y);clear d ho y;go_wp2;exact hR.out _ _ ⟨q,rfl,HE.out⟩
theorem xB (t:Tb):t.take.2.2.ents=t.ents/\t.take.2.2.ph=t.ph:=by unfold Tb.take;split<;>exact ⟨rfl,rfl⟩
theorem aKL (w:World) (z:Fam w0 w (C5 b c x ++ l)) (hx:x.ok c) (h:c.Okc):Calls prog 50 #[.pointer (some ⟨b,0,none⟩)] w (gY w0 l b c.take):=by
 refine aF fun R hR=>?_;obtain ⟨_,_,x2,x3,_⟩:=dB.cells z;have cn:=aJ w x2;have d:=aID w (C5.t3 (b:=b) (c:=c) (x:=x) (l:=l)) (hb:=x.hb) (p:=x.p) (b:=x.tb) (m:=c.m) (t:=c.t) (kk:=c.t.ents.length) z (by have:=h.tg.b.q20;omega);have HR:Hid (∀ w',Fam w0 w' (PL (C5 b c x ++ l) 0 1 2 x.hb x.p x.tb c.m c.t.take.2.2 c.t.ents.length)->R (.returned (.tuple #[.int .i64 c.t.take.1,.int .i64 c.t.take.2.1])) w'):=fun w' h2=>by
  rw [<-(xB c.t).1] at h2;exact hR.out _ _ ⟨rfl,x,⟨fun e=>by show x.ov=decide (c.t.take.2.2.ph=0);rw [(xB c.t).2];exact hx.ov e,hx.mv,hx.mv2⟩,h2⟩
 clear z hx h hR;generalize c.t.take=r at*;obtain ⟨r1,r2,r3⟩:=r;go_in;go_wp2_with fail;refine cn.mono ?_;rintro e _ ⟨rfl,rfl⟩;go_wp2_with fail;refine d.mono ?_;rintro e w1 ⟨rfl,y⟩;have HE:=aA y;clear d y;go_wp2_with fail;exact HR.out _ HE.out
end
section
variable {w0 w:World} {l:List Asn} {b:Nat} {c:Co} {x:CX} {i:Nat}
theorem aLn (w:World) (k:Int) (v:Value):Calls prog 45 #[.pointer none,.int .i64 k,v] w (aO w (.tuple #[.int .i64 0,.int .i64 1])):=by
 refine aF fun R z=>?_;have y:=sK w;go_in;go_wp2_with fail;refine y.mono ?_;rintro e _ ⟨rfl,rfl⟩;go_wp2;exact z.out _ _ ⟨rfl,rfl⟩
theorem aJY (w:World) (d:Fam w0 w (C5 b c x ++ l)) (k:Int) (v:Value) (y:List Bool) (hv:aAw w v y) (hl:y.length<=1000000):Calls prog 82 #[.pointer (some ⟨x.hb,0,none⟩),.int .i64 k,v] w (fun e w'=>e=.returned (.tuple #[.int .i64 (c.m.M.aH k y).1,.int .i64 (c.m.M.aH k y).2.1])/\Fam w0 w' (C5 b (c.pI (c.m.put (c.m.M.aH k y).2.2)) x ++ l)):=
 d.aCF 0 rfl (M':=(c.m.M.aH k y).2.2) (fun z=>z.aH k y) (fun L X hr z=>rC w hr z k v y hv hl)
theorem rO (w:World) (z:Fam w0 w (C5 b c x ++ l)) (k a n:Int):Calls prog 120 #[.pointer (some ⟨x.hb,0,none⟩),.int .i64 k,.int .i64 a,.int .i64 n] w (fun e w'=>e=.returned (.tuple #[.int .i64 (c.m.M.aG k a n).1,.int .i64 (c.m.M.aG k a n).2.1])/\Fam w0 w' (C5 b (c.pI (c.m.put (c.m.M.aG k a n).2.2)) x ++ l)):=
 z.aCF 0 rfl (M':=(c.m.M.aG k a n).2.2) (fun y=>y.aG k a n) (fun L X hr y=>vO w hr y k a n)
theorem aAt (w:World) (hf:Fam w0 w (C5 b c x ++ l)) (hx:x.ok c) (h:c.Ok) (k:Int) (va:Option Addr) (n vc:Nat) (bl:List Bool) (hn:bl.length=n) (hl:n<=1000000) (hv:∀ wx (c':Co) (x':CX),Fam w0 wx (C5 b c' x' ++ l)->aAw wx (.slice va n vc) bl) :
  Calls prog 45 #[.pointer (some ⟨b,0,none⟩),.int .i64 k,.slice va n vc] w (gY w0 l b (c.aH k bl)):=by
 refine aF fun R hR=>?_;obtain ⟨_,x1,x2,_⟩:=dB.cells hf;have cn:=aJ w x2;unfold Co.aH at hR
 by_cases y:k<0\/10<=k\/7<bl.length
 ·rw [if_pos y] at hR;rw [hn] at y;have HE:Hid (gY w0 l b (0,1,c) (.returned (.tuple #[.int .i64 0,.int .i64 1])) w):=⟨rfl,x,hx,hf⟩;clear hf hx h hv hn hl
  by_cases b1:k<0
  ·clear y;go_in;go_wp2_with fail;refine cn.mono ?_;rintro e _ ⟨rfl,rfl⟩;go_wp2;exact hR.out _ _ HE.out
  by_cases b2:10<=k
  ·clear y;go_in;go_wp2_with fail;refine cn.mono ?_;rintro e _ ⟨rfl,rfl⟩;go_wp2;exact hR.out _ _ HE.out
  have b3:(7:Int)<n:=by omega
  clear y;go_in;go_wp2_with fail;refine cn.mono ?_;rintro e _ ⟨rfl,rfl⟩;go_wp2;exact hR.out _ _ HE.out
 rw [if_neg y] at hR;rw [hn] at y;have b1:¬ k<0:=by omega
 have b2:¬ 10<=k:=by omega
 have b3:¬ (7:Int)<n:=by omega
 have cg:=lK w hf hx h c.rate ⟨h.k.rt.1,by have:=h.k.rt.2;omega⟩;have h5:=aA (h.give h.k.rt.1);have HV:=aA hv;have HL:=aA hl;have HN:=aA hn;clear hf hx h y hv hl hn;obtain ⟨d,hd⟩:∃ d,d=(c.give c.rate).2:=⟨_,rfl⟩;rw [<-hd] at cg h5 hR;generalize (c.give c.rate).1=gn at*;clear hd;go_in;go_wp2_with fail;refine cn.mono ?_;rintro e _ ⟨rfl,rfl⟩;clear cn;go_wp2_with fail;refine cg.mono ?_;rintro e w1 ⟨rfl,z,h6,h0⟩;have cb:=iD w1 h0 h5.out.k;obtain ⟨_,_,z2,_,z4,_⟩:=dB.cells h0;have h4:=HV.out w1 d z h0;have h1:=aA h6;unfold Co.newObj at hR
 cases hb:d.bar with
 | true=>
  rw [hb] at cb hR;have cm:=aAl w1 (C5.t2 (b:=b) (c:=d) (x:=z) (l:=l)) (hb:=z.hb) (p:=z.p) (m:=d.m) h0 (h5.out.k.mo (bQ.1 hb)) k (.slice va n vc) bl h4 (by rw [HN.out];exact HL.out);have HR:Hid (∀ w',Fam w0 w' (C5 b { d with m:=(d.m.aH k bl).2.2 } z ++ l)->R (.returned (.tuple #[.int .i64 (d.m.aH k bl).1,.int .i64 (d.m.aH k bl).2.1])) w'):=fun w' h2=>hR.out _ _ ⟨rfl,z,⟨h1.out.ov,h1.out.mv,h1.out.mv2⟩,h2⟩;replace cm:Calls prog 118 #[.pointer (some ⟨z.p,0,none⟩),.int .i64 k,.slice va n vc] w1 (fun e w'=>e=.returned (.tuple #[.int .i64 (d.m.aH k bl).1,.int .i64 (d.m.aH k bl).2.1])/\Fam w0 w' (C5 b { d with m:=(d.m.aH k bl).2.2 } z ++ l)):=cm;clear hR hb h0 h6 h4 cg;generalize d.m.aH k bl=r at*;obtain ⟨r1,r2,r3⟩:=r;go_wp2_with fail;refine cb.mono ?_;rintro e _ ⟨rfl,rfl⟩;clear cb;go_wp2_with fail;refine cm.mono ?_;rintro e w2 ⟨rfl,h3⟩;have HE:=aA h3;clear cm h3;go_wp2_with fail;exact HR.out _ HE.out
 | false=>
  rw [hb] at cb hR;have cm:=aJY w1 h0 k (.slice va n vc) bl h4 (by rw [HN.out];exact HL.out);have HR:Hid (∀ w',Fam w0 w' (C5 b { d with m:=d.m.put (d.m.M.aH k bl).2.2 } z ++ l)->R (.returned (.tuple #[.int .i64 (d.m.M.aH k bl).1,.int .i64 (d.m.M.aH k bl).2.1])) w'):=fun w' h2=>hR.out _ _ ⟨rfl,z,⟨h1.out.ov,h1.out.mv,h1.out.mv2⟩,h2⟩;replace cm:Calls prog 82 #[.pointer (some ⟨z.hb,0,none⟩),.int .i64 k,.slice va n vc] w1 (fun e w'=>e=.returned (.tuple #[.int .i64 (d.m.M.aH k bl).1,.int .i64 (d.m.M.aH k bl).2.1])/\Fam w0 w' (C5 b { d with m:=d.m.put (d.m.M.aH k bl).2.2 } z ++ l)):=cm;clear hR hb h0 h6 h4 cg;generalize d.m.M.aH k bl=r at*;obtain ⟨r1,r2,r3⟩:=r;go_wp2_with fail;refine cb.mono ?_;rintro e _ ⟨rfl,rfl⟩;clear cb;go_wp2_with fail;refine cm.mono ?_;rintro e w2 ⟨rfl,h3⟩;have HE:=aA h3;clear cm h3;go_wp2_with fail;exact HR.out _ HE.out
end
section
variable {w0 w:World} {l:List Asn} {b:Nat} {c:Co} {x:CX} {i:Nat}
theorem aEF (w:World) (y:Fam w0 w (C5 b c x ++ l)) (hx:x.ok c) (a n:Int) (h:a≠0):Calls prog 46 #[.pointer (some ⟨b,0,none⟩),.int .i64 3,.int .i64 a,.int .i64 n] w (gY w0 l b (0,1,c)):=by
 refine aF fun R hR=>?_;obtain ⟨_,_,x2,_⟩:=dB.cells y;have z:=aJ w x2;have d:Hid (gY w0 l b (0,1,c) (.returned (.tuple #[.int .i64 0,.int .i64 1])) w):=⟨rfl,x,hx,y⟩;have e1:(a == 0)=false:=by simpa using h
 clear h;clear y hx;go_in;go_wp2_with fail;refine z.mono ?_;rintro e _ ⟨rfl,rfl⟩;clear z;go_wp2;exact hR.out _ _ d.out
theorem aCS (w:World) (y:Fam w0 w (C5 b c x ++ l)) (hx:x.ok c) (a n:Int) (h:a<0):Calls prog 46 #[.pointer (some ⟨b,0,none⟩),.int .i64 4,.int .i64 a,.int .i64 n] w (gY w0 l b (0,1,c)):=by
 refine aF fun R hR=>?_;obtain ⟨_,_,x2,_⟩:=dB.cells y;have z:=aJ w x2;have d:Hid (gY w0 l b (0,1,c) (.returned (.tuple #[.int .i64 0,.int .i64 1])) w):=⟨rfl,x,hx,y⟩;clear y hx;go_in;go_wp2_with fail;refine z.mono ?_;rintro e _ ⟨rfl,rfl⟩;clear z;go_wp2;exact hR.out _ _ d.out
theorem aCT (w:World) (y:Fam w0 w (C5 b c x ++ l)) (hx:x.ok c) (a n:Int) (h:10<=a):Calls prog 46 #[.pointer (some ⟨b,0,none⟩),.int .i64 4,.int .i64 a,.int .i64 n] w (gY w0 l b (0,1,c)):=by
 refine aF fun R hR=>?_;obtain ⟨_,_,x2,_⟩:=dB.cells y;have z:=aJ w x2;have d:Hid (gY w0 l b (0,1,c) (.returned (.tuple #[.int .i64 0,.int .i64 1])) w):=⟨rfl,x,hx,y⟩;have h0:0<=a:=by omega
 clear y hx;go_in;go_wp2_with fail;refine z.mono ?_;rintro e _ ⟨rfl,rfl⟩;clear z;go_wp2;exact hR.out _ _ d.out
theorem aEE (w:World) (y:Fam w0 w (C5 b c x ++ l)) (hx:x.ok c) (k a n:Int) (d:k≠3) (h4:k≠4):Calls prog 46 #[.pointer (some ⟨b,0,none⟩),.int .i64 k,.int .i64 a,.int .i64 n] w (gY w0 l b (0,1,c)):=by
 refine aF fun R hR=>?_;obtain ⟨_,_,x2,_⟩:=dB.cells y;have z:=aJ w x2;have HE:Hid (gY w0 l b (0,1,c) (.returned (.tuple #[.int .i64 0,.int .i64 1])) w):=⟨rfl,x,hx,y⟩;have e1:(k == 3)=false:=by simpa using d
 have e2:(k == 4)=false:=by simpa using h4
 clear d h4;clear y hx;go_in;go_wp2_with fail;refine z.mono ?_;rintro e _ ⟨rfl,rfl⟩;clear z;go_wp2;exact hR.out _ _ HE.out
theorem aCQ (w:World) (y:Fam w0 w (C5 b c x ++ l)) (hx:x.ok c) (n:Int)  (h:n<0):Calls prog 46 #[.pointer (some ⟨b,0,none⟩),.int .i64 3,.int .i64 0,.int .i64 n] w (gY w0 l b (0,1,c)):=by
 refine aF fun R hR=>?_;obtain ⟨_,_,x2,_⟩:=dB.cells y;have z:=aJ w x2;have d:Hid (gY w0 l b (0,1,c) (.returned (.tuple #[.int .i64 0,.int .i64 1])) w):=⟨rfl,x,hx,y⟩;clear y hx;go_in;go_wp2_with fail;refine z.mono ?_;rintro e _ ⟨rfl,rfl⟩;clear z;go_wp2;exact hR.out _ _ d.out
theorem aCR (w:World) (y:Fam w0 w (C5 b c x ++ l)) (hx:x.ok c) (n:Int)  (h:48<n):Calls prog 46 #[.pointer (some ⟨b,0,none⟩),.int .i64 3,.int .i64 0,.int .i64 n] w (gY w0 l b (0,1,c)):=by
 refine aF fun R hR=>?_;obtain ⟨_,_,x2,_⟩:=dB.cells y;have z:=aJ w x2;have d:Hid (gY w0 l b (0,1,c) (.returned (.tuple #[.int .i64 0,.int .i64 1])) w):=⟨rfl,x,hx,y⟩;have h0:¬ n<0:=by omega
 clear y hx;go_in;go_wp2_with fail;refine z.mono ?_;rintro e _ ⟨rfl,rfl⟩;clear z;go_wp2;exact hR.out _ _ d.out
theorem aEC (w:World) (hf:Fam w0 w (C5 b c x ++ l)) (hx:x.ok c) (h0:c.Ok) (n:Int)  (h9:0<=n) (h8:n<=48) (h:n<8):Calls prog 46 #[.pointer (some ⟨b,0,none⟩),.int .i64 3,.int .i64 0,.int .i64 n] w (gY w0 l b ((c.give (c.rate*aBa n)).2.dJ 3 0 n)):=by
 refine aF fun R hR=>?_;obtain ⟨_,x1,x2,_⟩:=dB.cells hf;have cn:=aJ w x2;have hP:c.rate*aBa n=c.rate:=by unfold aBa;rw [if_neg (by omega),Int.mul_one]
 have h7:=h0.k.rt;rw [hP] at hR;obtain ⟨P,h5⟩:∃ P,P=c.rate:=⟨_,rfl⟩;have e3:P*1=P:=Int.mul_one P;rw [<-h5] at hR h7;have h4:=aA (h0.give (n:=P) (by omega));have cg:=lK w hf hx h0 P ⟨by omega,by omega⟩;rw [<-h5] at x1;have n1:¬ n<0:=by omega
 have n2:¬ 48<n:=by omega
 clear hf hx h0 hP h5;obtain ⟨d,hd⟩:∃ d,d=(c.give P).2:=⟨_,rfl⟩;rw [<-hd] at cg h4 hR;generalize (c.give P).1=gn at*;clear hd;go_in;go_wp2_with fail;refine cn.mono ?_;rintro e _ ⟨rfl,rfl⟩;clear cn;go_wp2_with fail;refine cg.mono ?_;rintro e w1 ⟨rfl,y,h6,h1⟩;have cb:=iD w1 h1 h4.out.k;obtain ⟨_,_,z2,_,z4,_⟩:=dB.cells h1;have z:=aA h6;unfold Co.dJ at hR
 cases hb:d.bar with
 | true=>
  rw [hb] at cb hR;have HR:Hid (∀ w',Fam w0 w' (C5 b { d with m:=(d.m.aG 3 0 n).2.2 } y ++ l)->R (.returned (.tuple #[.int .i64 (d.m.aG 3 0 n).1,.int .i64 (d.m.aG 3 0 n).2.1])) w'):=fun w' h2=>hR.out _ _ ⟨rfl,y,⟨z.out.ov,z.out.mv,z.out.mv2⟩,h2⟩;have cm:Calls prog 119 #[.pointer (some ⟨y.p,0,none⟩),.int .i64 3,.int .i64 0,.int .i64 n] w1 (fun e w'=>e=.returned (.tuple #[.int .i64 (d.m.aG 3 0 n).1,.int .i64 (d.m.aG 3 0 n).2.1])/\Fam w0 w' (C5 b { d with m:=(d.m.aG 3 0 n).2.2 } y ++ l)):=jM w1 (C5.t2 (b:=b) (c:=d) (x:=y) (l:=l)) (hb:=y.hb) (p:=y.p) (m:=d.m) h1 (h4.out.k.mo (bQ.1 hb)) 3 0 n;clear hR hb h1 h6 cg;generalize d.m.aG 3 0 n=r at*;obtain ⟨r1,r2,r3⟩:=r;go_wp2_with fail;refine cb.mono ?_;rintro e _ ⟨rfl,rfl⟩;clear cb;go_wp2_with fail;refine cm.mono ?_;rintro e w2 ⟨rfl,h3⟩;have HE:=aA h3;clear cm h3;go_wp2_with fail;exact HR.out _ HE.out
 | false=>
  rw [hb] at cb hR;have HR:Hid (∀ w',Fam w0 w' (C5 b { d with m:=d.m.put (d.m.M.aG 3 0 n).2.2 } y ++ l)->R (.returned (.tuple #[.int .i64 (d.m.M.aG 3 0 n).1,.int .i64 (d.m.M.aG 3 0 n).2.1])) w'):=fun w' h2=>hR.out _ _ ⟨rfl,y,⟨z.out.ov,z.out.mv,z.out.mv2⟩,h2⟩;have cm:Calls prog 120 #[.pointer (some ⟨y.hb,0,none⟩),.int .i64 3,.int .i64 0,.int .i64 n] w1 (fun e w'=>e=.returned (.tuple #[.int .i64 (d.m.M.aG 3 0 n).1,.int .i64 (d.m.M.aG 3 0 n).2.1])/\Fam w0 w' (C5 b { d with m:=d.m.put (d.m.M.aG 3 0 n).2.2 } y ++ l)):=rO w1 h1 3 0 n;clear hR hb h1 h6 cg;generalize d.m.M.aG 3 0 n=r at*;obtain ⟨r1,r2,r3⟩:=r;go_wp2_with fail;refine cb.mono ?_;rintro e _ ⟨rfl,rfl⟩;clear cb;go_wp2_with fail;refine cm.mono ?_;rintro e w2 ⟨rfl,h3⟩;have HE:=aA h3;clear cm h3;go_wp2_with fail;exact HR.out _ HE.out
theorem aED (w:World) (hf:Fam w0 w (C5 b c x ++ l)) (hx:x.ok c) (h0:c.Ok) (n:Int)  (x3:0<=n) (h9:n<=48) (h:8<=n):Calls prog 46 #[.pointer (some ⟨b,0,none⟩),.int .i64 3,.int .i64 0,.int .i64 n] w (gY w0 l b ((c.give (c.rate*aBa n)).2.dJ 3 0 n)):=by
 refine aF fun R hR=>?_;obtain ⟨_,x1,x2,_⟩:=dB.cells hf;have cn:=aJ w x2;obtain ⟨q,hq⟩:∃ q,q=(n+7).tdiv 8:=⟨_,rfl⟩;have x4:1<=q/\q<=6:=by rw [hq,Int.tdiv_eq_ediv_of_nonneg (by omega)];omega
 have hP:c.rate*aBa n=c.rate*(1+q):=by unfold aBa;rw [if_pos (by omega),hq]
 have h8:0<=c.rate*(1+q)/\c.rate*(1+q)<=700:=by
  have:=h0.k.rt;have h7:c.rate*(1+q)<=100*7:=Int.mul_le_mul this.2 (by omega) (by omega) (by omega);exact ⟨Int.mul_nonneg this.1 (by omega),by omega⟩
 have e1:(n+8 - 1).tdiv 8=q:=by rw [hq,show n+8 - 1=n+7 by omega]
 have e2:(n+7).tdiv 8=q:=hq.symm;rw [hP] at hR;obtain ⟨P,h5⟩:∃ P,P=c.rate*(1+q):=⟨_,rfl⟩;have e3:c.rate*(1+q)=P:=h5.symm;rw [<-h5] at hR h8;have h4:=aA (h0.give (n:=P) (by omega));have cg:=lK w hf hx h0 P ⟨by omega,by omega⟩;have n1:¬ n<0:=by omega
 have n2:¬ 48<n:=by omega
 clear hf hx h0 hP h5 hq;obtain ⟨d,hd⟩:∃ d,d=(c.give P).2:=⟨_,rfl⟩;rw [<-hd] at cg h4 hR;generalize (c.give P).1=gn at*;clear hd;generalize c.rate=rt at*;go_in;go_wp2_with fail;refine cn.mono ?_;rintro e _ ⟨rfl,rfl⟩;clear cn;go_wp2_with fail;refine cg.mono ?_;rintro e w1 ⟨rfl,y,h6,h1⟩;have cb:=iD w1 h1 h4.out.k;obtain ⟨_,_,z2,_,z4,_⟩:=dB.cells h1;have z:=aA h6;unfold Co.dJ at hR
 cases hb:d.bar with
 | true=>
  rw [hb] at cb hR;have HR:Hid (∀ w',Fam w0 w' (C5 b { d with m:=(d.m.aG 3 0 n).2.2 } y ++ l)->R (.returned (.tuple #[.int .i64 (d.m.aG 3 0 n).1,.int .i64 (d.m.aG 3 0 n).2.1])) w'):=fun w' h2=>hR.out _ _ ⟨rfl,y,⟨z.out.ov,z.out.mv,z.out.mv2⟩,h2⟩;have cm:Calls prog 119 #[.pointer (some ⟨y.p,0,none⟩),.int .i64 3,.int .i64 0,.int .i64 n] w1 (fun e w'=>e=.returned (.tuple #[.int .i64 (d.m.aG 3 0 n).1,.int .i64 (d.m.aG 3 0 n).2.1])/\Fam w0 w' (C5 b { d with m:=(d.m.aG 3 0 n).2.2 } y ++ l)):=jM w1 (C5.t2 (b:=b) (c:=d) (x:=y) (l:=l)) (hb:=y.hb) (p:=y.p) (m:=d.m) h1 (h4.out.k.mo (bQ.1 hb)) 3 0 n;clear hR hb h1 h6 cg;generalize d.m.aG 3 0 n=r at*;obtain ⟨r1,r2,r3⟩:=r;go_wp2_with fail;refine cb.mono ?_;rintro e _ ⟨rfl,rfl⟩;clear cb;go_wp2_with fail;refine cm.mono ?_;rintro e w2 ⟨rfl,h3⟩;have HE:=aA h3;clear cm h3;go_wp2_with fail;exact HR.out _ HE.out
 | false=>
  rw [hb] at cb hR;have HR:Hid (∀ w',Fam w0 w' (C5 b { d with m:=d.m.put (d.m.M.aG 3 0 n).2.2 } y ++ l)->R (.returned (.tuple #[.int .i64 (d.m.M.aG 3 0 n).1,.int .i64 (d.m.M.aG 3 0 n).2.1])) w'):=fun w' h2=>hR.out _ _ ⟨rfl,y,⟨z.out.ov,z.out.mv,z.out.mv2⟩,h2⟩;have cm:Calls prog 120 #[.pointer (some ⟨y.hb,0,none⟩),.int .i64 3,.int .i64 0,.int .i64 n] w1 (fun e w'=>e=.returned (.tuple #[.int .i64 (d.m.M.aG 3 0 n).1,.int .i64 (d.m.M.aG 3 0 n).2.1])/\Fam w0 w' (C5 b { d with m:=d.m.put (d.m.M.aG 3 0 n).2.2 } y ++ l)):=rO w1 h1 3 0 n;clear hR hb h1 h6 cg;generalize d.m.M.aG 3 0 n=r at*;obtain ⟨r1,r2,r3⟩:=r;go_wp2_with fail;refine cb.mono ?_;rintro e _ ⟨rfl,rfl⟩;clear cb;go_wp2_with fail;refine cm.mono ?_;rintro e w2 ⟨rfl,h3⟩;have HE:=aA h3;clear cm h3;go_wp2_with fail;exact HR.out _ HE.out
theorem aCO (w:World) (y:Fam w0 w (C5 b c x ++ l)) (hx:x.ok c) (a n:Int) (a1:0<=a) (a2:a<10) (h:n<0):Calls prog 46 #[.pointer (some ⟨b,0,none⟩),.int .i64 4,.int .i64 a,.int .i64 n] w (gY w0 l b (0,1,c)):=by
 refine aF fun R hR=>?_;obtain ⟨_,_,x2,_⟩:=dB.cells y;have z:=aJ w x2;have d:Hid (gY w0 l b (0,1,c) (.returned (.tuple #[.int .i64 0,.int .i64 1])) w):=⟨rfl,x,hx,y⟩;clear y hx;go_in;go_wp2_with fail;refine z.mono ?_;rintro e _ ⟨rfl,rfl⟩;clear z;go_wp2;exact hR.out _ _ d.out
theorem aCP (w:World) (y:Fam w0 w (C5 b c x ++ l)) (hx:x.ok c) (a n:Int) (a1:0<=a) (a2:a<10) (h:48<n):Calls prog 46 #[.pointer (some ⟨b,0,none⟩),.int .i64 4,.int .i64 a,.int .i64 n] w (gY w0 l b (0,1,c)):=by
 refine aF fun R hR=>?_;obtain ⟨_,_,x2,_⟩:=dB.cells y;have z:=aJ w x2;have d:Hid (gY w0 l b (0,1,c) (.returned (.tuple #[.int .i64 0,.int .i64 1])) w):=⟨rfl,x,hx,y⟩;have h0:¬ n<0:=by omega
 clear y hx;go_in;go_wp2_with fail;refine z.mono ?_;rintro e _ ⟨rfl,rfl⟩;clear z;go_wp2;exact hR.out _ _ d.out
theorem aEA (w:World) (hf:Fam w0 w (C5 b c x ++ l)) (hx:x.ok c) (h0:c.Ok) (a n:Int) (a1:0<=a) (a2:a<10) (h9:0<=n) (h8:n<=48) (h:n<8):Calls prog 46 #[.pointer (some ⟨b,0,none⟩),.int .i64 4,.int .i64 a,.int .i64 n] w (gY w0 l b ((c.give (c.rate*aBa n)).2.dJ 4 a n)):=by
 refine aF fun R hR=>?_;obtain ⟨_,x1,x2,_⟩:=dB.cells hf;have cn:=aJ w x2;have hP:c.rate*aBa n=c.rate:=by unfold aBa;rw [if_neg (by omega),Int.mul_one]
 have h7:=h0.k.rt;rw [hP] at hR;obtain ⟨P,h5⟩:∃ P,P=c.rate:=⟨_,rfl⟩;have e3:P*1=P:=Int.mul_one P;rw [<-h5] at hR h7;have h4:=aA (h0.give (n:=P) (by omega));have cg:=lK w hf hx h0 P ⟨by omega,by omega⟩;rw [<-h5] at x1;have n1:¬ n<0:=by omega
 have n2:¬ 48<n:=by omega
 clear hf hx h0 hP h5;obtain ⟨d,hd⟩:∃ d,d=(c.give P).2:=⟨_,rfl⟩;rw [<-hd] at cg h4 hR;generalize (c.give P).1=gn at*;clear hd;go_in;go_wp2_with fail;refine cn.mono ?_;rintro e _ ⟨rfl,rfl⟩;clear cn;go_wp2_with fail;refine cg.mono ?_;rintro e w1 ⟨rfl,y,h6,h1⟩;have cb:=iD w1 h1 h4.out.k;obtain ⟨_,_,z2,_,z4,_⟩:=dB.cells h1;have z:=aA h6;unfold Co.dJ at hR
 cases hb:d.bar with
 | true=>
  rw [hb] at cb hR;have HR:Hid (∀ w',Fam w0 w' (C5 b { d with m:=(d.m.aG 4 a n).2.2 } y ++ l)->R (.returned (.tuple #[.int .i64 (d.m.aG 4 a n).1,.int .i64 (d.m.aG 4 a n).2.1])) w'):=fun w' h2=>hR.out _ _ ⟨rfl,y,⟨z.out.ov,z.out.mv,z.out.mv2⟩,h2⟩;have cm:Calls prog 119 #[.pointer (some ⟨y.p,0,none⟩),.int .i64 4,.int .i64 a,.int .i64 n] w1 (fun e w'=>e=.returned (.tuple #[.int .i64 (d.m.aG 4 a n).1,.int .i64 (d.m.aG 4 a n).2.1])/\Fam w0 w' (C5 b { d with m:=(d.m.aG 4 a n).2.2 } y ++ l)):=jM w1 (C5.t2 (b:=b) (c:=d) (x:=y) (l:=l)) (hb:=y.hb) (p:=y.p) (m:=d.m) h1 (h4.out.k.mo (bQ.1 hb)) 4 a n;clear hR hb h1 h6 cg;generalize d.m.aG 4 a n=r at*;obtain ⟨r1,r2,r3⟩:=r;go_wp2_with fail;refine cb.mono ?_;rintro e _ ⟨rfl,rfl⟩;clear cb;go_wp2_with fail;refine cm.mono ?_;rintro e w2 ⟨rfl,h3⟩;have HE:=aA h3;clear cm h3;go_wp2_with fail;exact HR.out _ HE.out
 | false=>
  rw [hb] at cb hR;have HR:Hid (∀ w',Fam w0 w' (C5 b { d with m:=d.m.put (d.m.M.aG 4 a n).2.2 } y ++ l)->R (.returned (.tuple #[.int .i64 (d.m.M.aG 4 a n).1,.int .i64 (d.m.M.aG 4 a n).2.1])) w'):=fun w' h2=>hR.out _ _ ⟨rfl,y,⟨z.out.ov,z.out.mv,z.out.mv2⟩,h2⟩;have cm:Calls prog 120 #[.pointer (some ⟨y.hb,0,none⟩),.int .i64 4,.int .i64 a,.int .i64 n] w1 (fun e w'=>e=.returned (.tuple #[.int .i64 (d.m.M.aG 4 a n).1,.int .i64 (d.m.M.aG 4 a n).2.1])/\Fam w0 w' (C5 b { d with m:=d.m.put (d.m.M.aG 4 a n).2.2 } y ++ l)):=rO w1 h1 4 a n;clear hR hb h1 h6 cg;generalize d.m.M.aG 4 a n=r at*;obtain ⟨r1,r2,r3⟩:=r;go_wp2_with fail;refine cb.mono ?_;rintro e _ ⟨rfl,rfl⟩;clear cb;go_wp2_with fail;refine cm.mono ?_;rintro e w2 ⟨rfl,h3⟩;have HE:=aA h3;clear cm h3;go_wp2_with fail;exact HR.out _ HE.out
theorem aEB (w:World) (hf:Fam w0 w (C5 b c x ++ l)) (hx:x.ok c) (h0:c.Ok) (a n:Int) (a1:0<=a) (a2:a<10) (x3:0<=n) (h9:n<=48) (h:8<=n):Calls prog 46 #[.pointer (some ⟨b,0,none⟩),.int .i64 4,.int .i64 a,.int .i64 n] w (gY w0 l b ((c.give (c.rate*aBa n)).2.dJ 4 a n)):=by
 refine aF fun R hR=>?_;obtain ⟨_,x1,x2,_⟩:=dB.cells hf;have cn:=aJ w x2;obtain ⟨q,hq⟩:∃ q,q=(n+7).tdiv 8:=⟨_,rfl⟩;have x4:1<=q/\q<=6:=by rw [hq,Int.tdiv_eq_ediv_of_nonneg (by omega)];omega
 have hP:c.rate*aBa n=c.rate*(1+q):=by unfold aBa;rw [if_pos (by omega),hq]
 have h8:0<=c.rate*(1+q)/\c.rate*(1+q)<=700:=by
  have:=h0.k.rt;have h7:c.rate*(1+q)<=100*7:=Int.mul_le_mul this.2 (by omega) (by omega) (by omega);exact ⟨Int.mul_nonneg this.1 (by omega),by omega⟩
 have e1:(n+8 - 1).tdiv 8=q:=by rw [hq,show n+8 - 1=n+7 by omega]
 have e2:(n+7).tdiv 8=q:=hq.symm;rw [hP] at hR;obtain ⟨P,h5⟩:∃ P,P=c.rate*(1+q):=⟨_,rfl⟩;have e3:c.rate*(1+q)=P:=h5.symm;rw [<-h5] at hR h8;have h4:=aA (h0.give (n:=P) (by omega));have cg:=lK w hf hx h0 P ⟨by omega,by omega⟩;have n1:¬ n<0:=by omega
 have n2:¬ 48<n:=by omega
 clear hf hx h0 hP h5 hq;obtain ⟨d,hd⟩:∃ d,d=(c.give P).2:=⟨_,rfl⟩;rw [<-hd] at cg h4 hR;generalize (c.give P).1=gn at*;clear hd;generalize c.rate=rt at*;go_in;go_wp2_with fail;refine cn.mono ?_;rintro e _ ⟨rfl,rfl⟩;clear cn;go_wp2_with fail;refine cg.mono ?_;rintro e w1 ⟨rfl,y,h6,h1⟩;have cb:=iD w1 h1 h4.out.k;obtain ⟨_,_,z2,_,z4,_⟩:=dB.cells h1;have z:=aA h6;unfold Co.dJ at hR
 cases hb:d.bar with
 | true=>
  rw [hb] at cb hR;have HR:Hid (∀ w',Fam w0 w' (C5 b { d with m:=(d.m.aG 4 a n).2.2 } y ++ l)->R (.returned (.tuple #[.int .i64 (d.m.aG 4 a n).1,.int .i64 (d.m.aG 4 a n).2.1])) w'):=fun w' h2=>hR.out _ _ ⟨rfl,y,⟨z.out.ov,z.out.mv,z.out.mv2⟩,h2⟩;have cm:Calls prog 119 #[.pointer (some ⟨y.p,0,none⟩),.int .i64 4,.int .i64 a,.int .i64 n] w1 (fun e w'=>e=.returned (.tuple #[.int .i64 (d.m.aG 4 a n).1,.int .i64 (d.m.aG 4 a n).2.1])/\Fam w0 w' (C5 b { d with m:=(d.m.aG 4 a n).2.2 } y ++ l)):=jM w1 (C5.t2 (b:=b) (c:=d) (x:=y) (l:=l)) (hb:=y.hb) (p:=y.p) (m:=d.m) h1 (h4.out.k.mo (bQ.1 hb)) 4 a n;clear hR hb h1 h6 cg;generalize d.m.aG 4 a n=r at*;obtain ⟨r1,r2,r3⟩:=r;go_wp2_with fail;refine cb.mono ?_;rintro e _ ⟨rfl,rfl⟩;clear cb;go_wp2_with fail;refine cm.mono ?_;rintro e w2 ⟨rfl,h3⟩;have HE:=aA h3;clear cm h3;go_wp2_with fail;exact HR.out _ HE.out
 | false=>
  rw [hb] at cb hR;have HR:Hid (∀ w',Fam w0 w' (C5 b { d with m:=d.m.put (d.m.M.aG 4 a n).2.2 } y ++ l)->R (.returned (.tuple #[.int .i64 (d.m.M.aG 4 a n).1,.int .i64 (d.m.M.aG 4 a n).2.1])) w'):=fun w' h2=>hR.out _ _ ⟨rfl,y,⟨z.out.ov,z.out.mv,z.out.mv2⟩,h2⟩;have cm:Calls prog 120 #[.pointer (some ⟨y.hb,0,none⟩),.int .i64 4,.int .i64 a,.int .i64 n] w1 (fun e w'=>e=.returned (.tuple #[.int .i64 (d.m.M.aG 4 a n).1,.int .i64 (d.m.M.aG 4 a n).2.1])/\Fam w0 w' (C5 b { d with m:=d.m.put (d.m.M.aG 4 a n).2.2 } y ++ l)):=rO w1 h1 4 a n;clear hR hb h1 h6 cg;generalize d.m.M.aG 4 a n=r at*;obtain ⟨r1,r2,r3⟩:=r;go_wp2_with fail;refine cb.mono ?_;rintro e _ ⟨rfl,rfl⟩;clear cb;go_wp2_with fail;refine cm.mono ?_;rintro e w2 ⟨rfl,h3⟩;have HE:=aA h3;clear cm h3;go_wp2_with fail;exact HR.out _ HE.out
theorem aBV (w:World) (y:Fam w0 w (C5 b c x ++ l)) (hx:x.ok c) (h:c.Ok) (k a n:Int):Calls prog 46 #[.pointer (some ⟨b,0,none⟩),.int .i64 k,.int .i64 a,.int .i64 n] w (gY w0 l b (c.aG k a n)):=by
 by_cases z:(k=3/\a=0)\/(k=4/\0<=a/\a<10)
 ·by_cases n0:n<0
  ·rw [show c.aG k a n=(0,1,c) by unfold Co.aG;rw [if_pos (.inl n0)]];rcases z with ⟨rfl,rfl⟩|⟨rfl,d,a2⟩
   ·exact aCQ w y hx n n0
   exact aCO w y hx a n d a2 n0
  by_cases n4:48<n
  ·rw [show c.aG k a n=(0,1,c) by unfold Co.aG;rw [if_pos (.inr (.inl n4))]];rcases z with ⟨rfl,rfl⟩|⟨rfl,d,a2⟩
   ·exact aCR w y hx n n4
   exact aCP w y hx a n d a2 n4
  rw [show c.aG k a n=(c.give (c.rate*aBa n)).2.dJ k a n by unfold Co.aG;rw [if_neg (fun e=>by rcases e with e|e|e;exact n0 e;exact n4 e;exact e z)]]
  by_cases n8:n<8
  ·rcases z with ⟨rfl,rfl⟩|⟨rfl,d,a2⟩
   ·exact aEC w y hx h n (by omega) (by omega) n8
   exact aEA w y hx h a n d a2 (by omega) (by omega) n8
  rcases z with ⟨rfl,rfl⟩|⟨rfl,d,a2⟩
  ·exact aED w y hx h n (by omega) (by omega) (by omega)
  exact aEB w y hx h a n d a2 (by omega) (by omega) (by omega)
 rw [show c.aG k a n=(0,1,c) by unfold Co.aG;rw [if_pos (.inr (.inr z))]]
 by_cases h3:k=3
 ·subst h3;exact aEF w y hx a n (fun e=>z (.inl ⟨rfl,e⟩))
 by_cases h4:k=4
 ·subst h4
  by_cases a0:a<0
  ·exact aCS w y hx a n a0
  exact aCT w y hx a n (by have:=fun e=>z (.inr ⟨rfl,by omega,e⟩);omega)
 exact aEE w y hx k a n h3 h4
end
end Go.Proofs.YthflghdaejbdkaaGreat
