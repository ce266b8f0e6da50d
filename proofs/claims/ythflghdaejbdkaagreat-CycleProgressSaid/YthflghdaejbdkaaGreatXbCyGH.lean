/- Lemmas of this claim. -/
import Derived.Deep.DeepFit
import Derived.Test.YthflghdaejbdkaaGreatXbCyW
namespace Go.Proofs.YthflghdaejbdkaaGreat
open _root_.Go.Proofs.Tryz (prog)
open Go.RowKit Go.Maps
set_option maxHeartbeats 6400000
set_option maxRecDepth 100000
set_option linter.unusedVariables false
section
variable {w0 w:World} {l:List Asn} {b:Nat} {c:Co} {x:CX} {i:Nat}
theorem Fam.front {A:Asn} (h:Fam w0 w (l ++ [A])):Fam w0 w (A :: l):=by
 refine h.selC (fun k=>if k=0 then l.length else k - 1) (fun k Z hk=>?_) (fun j k hj hk hne=>?_)
 ·match k with
  | 0=>
   show (l ++ [A])[l.length]?=some Z;rw [jR];exact hk
  | k+1=>
   have y:l[k]?=some Z:=hk;simp only [show ¬ (k+1=0) by omega,if_false,Nat.add_sub_cancel];exact rZ y
 rw [List.length_cons] at hj hk;split<;>split<;>omega
theorem aPP (w:World) (n:Int):Calls prog 43 #[.pointer none,.int .i64 n] w (aO w (.tuple #[.int .i64 0,.int .i64 1])):=by
 refine aF fun R z=>?_;have y:=sZ w;go_in;go_wp2_with fail;go_fit y;rintro e _ ⟨rfl,rfl⟩;go_wp2;exact z.o _ _ ⟨rfl,rfl⟩
theorem aIo (w:World) (d:Fam w0 w (C5 b c x ++ l)) (hx:x.ok c) (h:c.Ok) (n:Int):Calls prog 43 #[.pointer (some ⟨b,0,none⟩),.int .i64 n] w (iC w0 l b (c.fZ n)):=by
 refine aF fun R z=>?_;obtain ⟨_,_,x2,_⟩:=dD.cells d;have cn:=aJ w x2;unfold Co.fZ at z
 by_cases y:n<0\/10000<n
 ·rw [if_pos y] at z;have HE:Hid (iC w0 l b (0,1,c) (.returned (.tuple #[.int .i64 0,.int .i64 1])) w):=⟨rfl,x,hx,d⟩;clear d hx h
  by_cases b1:n<0
  ·clear y;go_in;go_wp2_with fail;go_fit cn;rintro e _ ⟨rfl,rfl⟩;go_wp2;exact z.o _ _ HE.o
  have b2:10000<n:=by omega
  clear y;go_in;go_wp2_with fail;go_fit cn;rintro e _ ⟨rfl,rfl⟩;go_wp2;exact z.o _ _ HE.o
 rw [if_neg y] at z;have b1:¬ n<0:=by omega
 have b2:¬ 10000<n:=by omega
 have cg:=lV w d hx h n ⟨by omega,by omega⟩;clear d hx h y;go_in;go_wp2_with fail;go_fit cn;rintro e _ ⟨rfl,rfl⟩;go_wp2_with fail;go_fit cg;rintro e w1 ⟨rfl,x1,h1,h0⟩;have HE:Hid (iC w0 l b ((c.give n).1,0,(c.give n).2) (.returned (.tuple #[.int .i64 (c.give n).1,.int .i64 0])) w1):=⟨rfl,x1,h1,h0⟩;clear cg h1 h0;go_wp2;exact z.o _ _ HE.o
theorem aNr (w:World) (d:Fam w0 w (C5 b c x ++ l)) (h:c.Okc) (y s:Int) (hy:wfI y):Calls prog 47 #[.pointer (some ⟨b,0,none⟩),.int .i64 y,.int .i64 s] w (Same w (.tuple #[.int .i64 (c.get y s).1,.int .i64 (c.get y s).2])):=by
 refine aF fun R z=>?_;obtain ⟨_,_,x2,_⟩:=dD.cells d;have cn:=aJ w x2;have ch:=fH w d h y hy;unfold Co.get at z
 cases hh:c.hid y with
 | true=>
  rw [hh] at ch z;replace z:Hid (∀ e w',Same w (.tuple #[.int .i64 0,.int .i64 3]) e w'->R e w'):=z;clear d h hh;go_in;go_wp2_with fail;go_fit cn;rintro e _ ⟨rfl,rfl⟩;go_wp2_with fail;go_fit ch;rintro e _ ⟨rfl,k,rfl⟩;go_wp2;exact z.o _ _ ⟨rfl,k,rfl⟩
 | false=>
  rw [hh] at ch z;replace z:Hid (∀ e w',Same w (.tuple #[.int .i64 (c.m.M.get y s).1,.int .i64 (c.m.M.get y s).2]) e w'->R e w'):=z;have HC:Hid (∀ n,(w.drewN n).cell? ⟨b,2,none⟩=some (.pointer (some ⟨x.hb,0,none⟩))/\Calls prog 122 #[.pointer (some ⟨x.hb,0,none⟩),.int .i64 y,.int .i64 s] (w.drewN n) (Same (w.drewN n) (.tuple #[.int .i64 (c.m.M.get y s).1,.int .i64 (c.m.M.get y s).2]))):=fun n=>by
   obtain ⟨hk,L,X,hp⟩:=C5.ph (d.drewN n);exact ⟨(dD.cells (d.drewN n)).2.2.1,aKz _ hp hk y s hy⟩
  clear d h hh;go_in;go_wp2_with fail;go_fit cn;rintro e _ ⟨rfl,rfl⟩;go_wp2_with fail;go_fit ch;rintro e _ ⟨rfl,k,rfl⟩;obtain ⟨z2,cg⟩:=HC.o k;clear ch HC x2;go_wp2_with fail;go_fit cg;rintro e w2 ⟨rfl,k2,rfl⟩;clear cg;go_wp2;exact z.o _ _ ⟨rfl,k+k2,rfl⟩
def aPS (w0:World) (l:List Asn) (b:Nat) (r:Int×Co) (e:Ending) (w':World):Prop:=e=.returned (.int .i64 r.1)/\∃ y:CX,y.ok r.2/\Fam w0 w' (C5 b r.2 y ++ l)
theorem aDT (w:World) (hf:Fam w0 w (C5 b c x ++ l)) (hx:x.ok c) (h:c.Okc) (y s v:Int) (hy:wfI y) (hv:wfI v) (hh:c.hid y=false) (hr:(c.m.M.isRef y s).1=true->c.hid v=false):Calls prog 52 #[.pointer (some ⟨b,0,none⟩),.int .i64 y,.int .i64 s,.int .i64 v] w (aPS w0 l b (c.store y s v)):=by
 refine aF fun R hR=>?_;obtain ⟨_,_,x2,_⟩:=dD.cells hf;have cn:=aJ w x2;have ch:=fH w hf h y hy;rw [hh] at ch;have h4:Hid (c.store y s v=if c.bar=true then ((c.m.store y s v).1,({ c with m:=(c.m.store y s v).2 }:Co)) else ((c.m.M.set y s v).1,({ c with m:=c.m.put (c.m.M.set y s v).2 }:Co))):=by
  show _=_;unfold Co.store;rw [if_neg (fun e=>by rcases e with e|e;rw [hh] at e;cases e;have:=hr e.1;rw [this] at e;cases e.2)]
 rw [h4.o] at hR;have HF:=aA hf;have HX:=aA hx;have HH:=aA h;have h3:=aA hy;have h2:=aA hv;clear hf hx h hy hv hh h4;go_in;go_wp2_with fail;go_fit cn;rintro e _ ⟨rfl,rfl⟩;clear cn;go_wp2_with fail;go_fit ch;rintro e _ ⟨rfl,k,rfl⟩;have F1:=aA (HF.o.drewN k);generalize w.drewN k=w1 at*;obtain ⟨_,_,z2,_⟩:=dD.cells F1.o;obtain ⟨h6,L1,X1,h7⟩:=C5.ph F1.o;have ci:=sG w1 h7 h6 y s h3.o;clear ch x2 HF h6 h7;have HB:Hid (∀ d,Fam w0 d (C5 b c x ++ l)->Calls prog 117 #[.pointer (some ⟨b,0,none⟩)] d (aO d (.bool c.bar))):=fun d hx=>iF d hx HH.o;have HS:Hid (∀ d,Fam w0 d (C5 b c x ++ l)->Calls prog 127 #[.pointer (some ⟨x.hb,0,none⟩),.int .i64 y,.int .i64 s,.int .i64 v] d (fun e w'=>e=.returned (.int .i64 (c.m.M.set y s v).1)/\Fam w0 w' (C5 b (c.pU (c.m.put (c.m.M.set y s v).2)) x ++ l))):=fun d hx=>aGa d hx y s v h3.o h2.o;have h1:Hid (c.bar=true->∀ d,Fam w0 d (C5 b c x ++ l)->Calls prog 126 #[.pointer (some ⟨x.p,0,none⟩),.int .i64 y,.int .i64 s,.int .i64 v] d (fun e w'=>e=.returned (.int .i64 (c.m.store y s v).1)/\Fam w0 w' (C5 b (c.pU (c.m.store y s v).2) x ++ l))):=fun hb d hx=>aHi d (C5.t2 (b:=b) (c:=c) (x:=x) (l:=l)) (hb:=x.hb) (p:=x.p) (m:=c.m) hx (HH.o.mo (dM.1 hb)) y s v h3.o h2.o
 cases h0:(c.m.M.isRef y s).1 with
 | true=>
  have cv:Hid (∀ d,Fam w0 d (C5 b c x ++ l)->Calls prog 121 #[.pointer (some ⟨b,0,none⟩),.int .i64 v] d (Same d (.bool false))):=fun d hx=>by
   have:=fH d hx HH.o v h2.o;rw [hr h0] at this;exact this
  rw [h0] at ci;clear hr h0;generalize (c.m.M.isRef y s).2=re at*;go_wp2_with fail;go_fit ci;rintro e _ ⟨rfl,rfl⟩;have h5:=cv.o _ F1.o;clear ci cv;go_wp2_with fail;go_fit h5;rintro e _ ⟨rfl,k2,rfl⟩;have F2:=aA (F1.o.drewN k2);generalize w1.drewN k2=w2 at*;have cb:=HB.o w2 F2.o;obtain ⟨_,_,y2,_,y4,_⟩:=dD.cells F2.o;clear h5 F1 z2
  cases hb:c.bar with
  | true=>
   rw [hb] at cb hR;have cs:=h1.o hb w2 F2.o;clear hb HS;go_wp2_with fail;go_fit cb;rintro e _ ⟨rfl,rfl⟩;clear cb;go_wp2_with fail;go_fit cs;rintro e w3 ⟨rfl,z⟩;have HE:=aA z;clear cs z;go_wp2;exact hR.o _ _ ⟨rfl,x,⟨HX.o.ov,HX.o.mv,HX.o.mv2⟩,HE.o⟩
  | false=>
   rw [hb] at cb hR;have cs:=HS.o w2 F2.o;clear hb h1;go_wp2_with fail;go_fit cb;rintro e _ ⟨rfl,rfl⟩;clear cb;go_wp2_with fail;go_fit cs;rintro e w3 ⟨rfl,z⟩;have HE:=aA z;clear cs z;go_wp2;exact hR.o _ _ ⟨rfl,x,⟨HX.o.ov,HX.o.mv,HX.o.mv2⟩,HE.o⟩
 | false=>
  rw [h0] at ci;have cb:=HB.o w1 F1.o;obtain ⟨_,_,y2,_,y4,_⟩:=dD.cells F1.o;clear hr h0;generalize (c.m.M.isRef y s).2=re at *
  cases hb:c.bar with
  | true=>
   rw [hb] at cb hR;have cs:=h1.o hb w1 F1.o;clear hb HS;go_wp2_with fail;go_fit ci;rintro e _ ⟨rfl,rfl⟩;clear ci;go_wp2_with fail;go_fit cb;rintro e _ ⟨rfl,rfl⟩;clear cb;go_wp2_with fail;go_fit cs;rintro e w3 ⟨rfl,z⟩;have HE:=aA z;clear cs z;go_wp2;exact hR.o _ _ ⟨rfl,x,⟨HX.o.ov,HX.o.mv,HX.o.mv2⟩,HE.o⟩
  | false=>
   rw [hb] at cb hR;have cs:=HS.o w1 F1.o;clear hb h1;go_wp2_with fail;go_fit ci;rintro e _ ⟨rfl,rfl⟩;clear ci;go_wp2_with fail;go_fit cb;rintro e _ ⟨rfl,rfl⟩;clear cb;go_wp2_with fail;go_fit cs;rintro e w3 ⟨rfl,z⟩;have HE:=aA z;clear cs z;go_wp2;exact hR.o _ _ ⟨rfl,x,⟨HX.o.ov,HX.o.mv,HX.o.mv2⟩,HE.o⟩
theorem aHZ (w:World) (d:Fam w0 w (C5 b c x ++ l)) (hx:x.ok c) (h:c.Okc) (y s v:Int) (hy:wfI y) (hv:wfI v):Calls prog 52 #[.pointer (some ⟨b,0,none⟩),.int .i64 y,.int .i64 s,.int .i64 v] w (aPS w0 l b (c.store y s v)):=by
 cases hh:c.hid y with
 | true=>
  refine aF fun R hR=>?_;obtain ⟨_,_,x2,_⟩:=dD.cells d;have cn:=aJ w x2;have ch:=fH w d h y hy;rw [hh] at ch;have z:Hid (c.store y s v=(3,c)):=by show _=_;unfold Co.store;rw [if_pos (.inl hh)]
  rw [z.o] at hR;have HF:=aA d;have HX:=aA hx;clear d hx h hh z;go_in;go_wp2_with fail;go_fit cn;rintro e _ ⟨rfl,rfl⟩;go_wp2_with fail;go_fit ch;rintro e _ ⟨rfl,k,rfl⟩;have F1:=aA (HF.o.drewN k);clear ch;go_wp2;exact hR.o _ _ ⟨rfl,x,HX.o,F1.o⟩
 | false=>
  by_cases hb:(c.m.M.isRef y s).1=true/\c.hid v=true
  ·refine aF fun R hR=>?_;obtain ⟨_,_,x2,_⟩:=dD.cells d;have cn:=aJ w x2;have ch:=fH w d h y hy;rw [hh] at ch;have z:Hid (c.store y s v=(3,c)):=by show _=_;unfold Co.store;rw [if_pos (.inr hb)]
   rw [z.o] at hR;have HF:=aA d;have HX:=aA hx;have HC:Hid (∀ wx,Fam w0 wx (C5 b c x ++ l)->Calls prog 125 #[.pointer (some ⟨x.hb,0,none⟩),.int .i64 y,.int .i64 s] wx (aO wx (.tuple #[.bool true,.int .i64 (c.m.M.isRef y s).2]))/\Calls prog 121 #[.pointer (some ⟨b,0,none⟩),.int .i64 v] wx (Same wx (.bool true))):=fun wx hx=>by
    obtain ⟨h0,L1,X1,h1⟩:=C5.ph hx;have c1:=sG wx h1 h0 y s hy;have c2:=fH wx hx h v hv;rw [hb.1] at c1;rw [hb.2] at c2;exact ⟨c1,c2⟩
   generalize (c.m.M.isRef y s).2=re at*;clear d hx h hh z hb;go_in;go_wp2_with fail;go_fit cn;rintro e _ ⟨rfl,rfl⟩;go_wp2_with fail;go_fit ch;rintro e _ ⟨rfl,k,rfl⟩;have F1:=aA (HF.o.drewN k);generalize w.drewN k=w1 at*;obtain ⟨_,_,z2,_⟩:=dD.cells F1.o;obtain ⟨c1,c2⟩:=HC.o _ F1.o;clear ch x2;go_wp2_with fail;go_fit c1;rintro e _ ⟨rfl,rfl⟩;clear c1;go_wp2_with fail;go_fit c2;rintro e _ ⟨rfl,k2,rfl⟩;have F2:=aA (F1.o.drewN k2);clear c2;go_wp2;exact hR.o _ _ ⟨rfl,x,HX.o,F2.o⟩
  exact aDT w d hx h y s v hy hv hh (fun e=>by cases h2:c.hid v;rfl;exact absurd ⟨e,h2⟩ hb)
theorem aKY (w:World) (z:Fam w0 w (C5 b c x ++ l)):Calls prog 55 #[.pointer (some ⟨b,0,none⟩)] w (fun e w'=>∃ q,e=.returned (.pointer (some ⟨q,0,none⟩))/\Only [] w w'/\Fam w0 w' (C5 b c x ++ (l ++ [PH q c.m.M]))):=by
 refine aF fun R hR=>?_;obtain ⟨_,_,x2,_⟩:=dD.cells z;have cn:=aJ w x2;have d:=aEW w z;clear z;go_in;go_wp2_with fail;go_fit cn;rintro e _ ⟨rfl,rfl⟩;go_wp2_with fail;go_fit d;rintro e w1 ⟨q,rfl,ho,y⟩;have HE:=aA (And.intro ho y);clear d ho y;go_wp2;exact hR.o _ _ ⟨q,rfl,HE.o⟩
theorem xK (t:Tb):t.take.2.2.ents=t.ents/\t.take.2.2.ph=t.ph:=by unfold Tb.take;split<;>exact ⟨rfl,rfl⟩
theorem aKQ (w:World) (z:Fam w0 w (C5 b c x ++ l)) (hx:x.ok c) (h:c.Okc):Calls prog 50 #[.pointer (some ⟨b,0,none⟩)] w (iC w0 l b c.take):=by
 refine aF fun R hR=>?_;obtain ⟨_,_,x2,x3,_⟩:=dD.cells z;have cn:=aJ w x2;have d:=aIK w (C5.t3 (b:=b) (c:=c) (x:=x) (l:=l)) (hb:=x.hb) (p:=x.p) (b:=x.tb) (m:=c.m) (t:=c.t) (kk:=c.t.ents.length) z (by have:=h.tg.b.q20;omega);have HR:Hid (∀ w',Fam w0 w' (PL (C5 b c x ++ l) 0 1 2 x.hb x.p x.tb c.m c.t.take.2.2 c.t.ents.length)->R (.returned (.tuple #[.int .i64 c.t.take.1,.int .i64 c.t.take.2.1])) w'):=fun w' h2=>by
  rw [<-(xK c.t).1] at h2;exact hR.o _ _ ⟨rfl,x,⟨fun e=>by show x.ov=decide (c.t.take.2.2.ph=0);rw [(xK c.t).2];exact hx.ov e,hx.mv,hx.mv2⟩,h2⟩
 clear z hx h hR;generalize c.t.take=r at*;obtain ⟨r1,r2,r3⟩:=r;go_in;go_wp2_with fail;go_fit cn;rintro e _ ⟨rfl,rfl⟩;go_wp2_with fail;go_fit d;rintro e w1 ⟨rfl,y⟩;have HE:=aA y;clear d y;go_wp2_with fail;exact HR.o _ HE.o
end
section
variable {w0 w:World} {l:List Asn} {b:Nat} {c:Co} {x:CX} {i:Nat}
theorem aLy (w:World) (k:Int) (v:Value):Calls prog 45 #[.pointer none,.int .i64 k,v] w (aO w (.tuple #[.int .i64 0,.int .i64 1])):=by
 refine aF fun R z=>?_;have y:=sZ w;go_in;go_wp2_with fail;go_fit y;rintro e _ ⟨rfl,rfl⟩;go_wp2;exact z.o _ _ ⟨rfl,rfl⟩
theorem aKd (w:World) (d:Fam w0 w (C5 b c x ++ l)) (k:Int) (v:Value) (y:List Bool) (hv:aBt w v y) (hl:y.length<=1000000):Calls prog 82 #[.pointer (some ⟨x.hb,0,none⟩),.int .i64 k,v] w (fun e w'=>e=.returned (.tuple #[.int .i64 (c.m.M.aH k y).1,.int .i64 (c.m.M.aH k y).2.1])/\Fam w0 w' (C5 b (c.pU (c.m.put (c.m.M.aH k y).2.2)) x ++ l)):=
 d.aCU 0 rfl (M':=(c.m.M.aH k y).2.2) (fun z=>z.aH k y) (fun L X hr z=>rU w hr z k v y hv hl)
theorem sK (w:World) (z:Fam w0 w (C5 b c x ++ l)) (k a n:Int):Calls prog 120 #[.pointer (some ⟨x.hb,0,none⟩),.int .i64 k,.int .i64 a,.int .i64 n] w (fun e w'=>e=.returned (.tuple #[.int .i64 (c.m.M.aG k a n).1,.int .i64 (c.m.M.aG k a n).2.1])/\Fam w0 w' (C5 b (c.pU (c.m.put (c.m.M.aG k a n).2.2)) x ++ l)):=
 z.aCU 0 rfl (M':=(c.m.M.aG k a n).2.2) (fun y=>y.aG k a n) (fun L X hr y=>vY w hr y k a n)
theorem aAH (w:World) (hf:Fam w0 w (C5 b c x ++ l)) (hx:x.ok c) (h:c.Ok) (k:Int) (va:Option Addr) (n vc:Nat) (bl:List Bool) (hn:bl.length=n) (hl:n<=1000000) (hv:∀ wx (c':Co) (x':CX),Fam w0 wx (C5 b c' x' ++ l)->aBt wx (.slice va n vc) bl) :
  Calls prog 45 #[.pointer (some ⟨b,0,none⟩),.int .i64 k,.slice va n vc] w (iC w0 l b (c.aH k bl)):=by
 refine aF fun R hR=>?_;obtain ⟨_,x1,x2,_⟩:=dD.cells hf;have cn:=aJ w x2;unfold Co.aH at hR
 by_cases y:k<0\/10<=k\/7<bl.length
 ·rw [if_pos y] at hR;rw [hn] at y;have HE:Hid (iC w0 l b (0,1,c) (.returned (.tuple #[.int .i64 0,.int .i64 1])) w):=⟨rfl,x,hx,hf⟩;clear hf hx h hv hn hl
  by_cases b1:k<0
  ·clear y;go_in;go_wp2_with fail;go_fit cn;rintro e _ ⟨rfl,rfl⟩;go_wp2;exact hR.o _ _ HE.o
  by_cases b2:10<=k
  ·clear y;go_in;go_wp2_with fail;go_fit cn;rintro e _ ⟨rfl,rfl⟩;go_wp2;exact hR.o _ _ HE.o
  have b3:(7:Int)<n:=by omega
  clear y;go_in;go_wp2_with fail;go_fit cn;rintro e _ ⟨rfl,rfl⟩;go_wp2;exact hR.o _ _ HE.o
 rw [if_neg y] at hR;rw [hn] at y;have b1:¬ k<0:=by omega
 have b2:¬ 10<=k:=by omega
 have b3:¬ (7:Int)<n:=by omega
 have cg:=lV w hf hx h c.rate ⟨h.k.rt.1,by have:=h.k.rt.2;omega⟩;have h5:=aA (h.give h.k.rt.1);have HV:=aA hv;have HL:=aA hl;have HN:=aA hn;clear hf hx h y hv hl hn;obtain ⟨d,hd⟩:∃ d,d=(c.give c.rate).2:=⟨_,rfl⟩;rw [<-hd] at cg h5 hR;generalize (c.give c.rate).1=gn at*;clear hd;go_in;go_wp2_with fail;go_fit cn;rintro e _ ⟨rfl,rfl⟩;clear cn;go_wp2_with fail;go_fit cg;rintro e w1 ⟨rfl,z,h6,h0⟩;have cb:=iF w1 h0 h5.o.k;obtain ⟨_,_,z2,_,z4,_⟩:=dD.cells h0;have h4:=HV.o w1 d z h0;have h1:=aA h6;unfold Co.newObj at hR
 cases hb:d.bar with
 | true=>
  rw [hb] at cb hR;have cm:=aAx w1 (C5.t2 (b:=b) (c:=d) (x:=z) (l:=l)) (hb:=z.hb) (p:=z.p) (m:=d.m) h0 (h5.o.k.mo (dM.1 hb)) k (.slice va n vc) bl h4 (by rw [HN.o];exact HL.o);have HR:Hid (∀ w',Fam w0 w' (C5 b { d with m:=(d.m.aH k bl).2.2 } z ++ l)->R (.returned (.tuple #[.int .i64 (d.m.aH k bl).1,.int .i64 (d.m.aH k bl).2.1])) w'):=fun w' h2=>hR.o _ _ ⟨rfl,z,⟨h1.o.ov,h1.o.mv,h1.o.mv2⟩,h2⟩;replace cm:Calls prog 118 #[.pointer (some ⟨z.p,0,none⟩),.int .i64 k,.slice va n vc] w1 (fun e w'=>e=.returned (.tuple #[.int .i64 (d.m.aH k bl).1,.int .i64 (d.m.aH k bl).2.1])/\Fam w0 w' (C5 b { d with m:=(d.m.aH k bl).2.2 } z ++ l)):=cm;clear hR hb h0 h6 h4 cg;generalize d.m.aH k bl=r at*;obtain ⟨r1,r2,r3⟩:=r;go_wp2_with fail;go_fit cb;rintro e _ ⟨rfl,rfl⟩;clear cb;go_wp2_with fail;go_fit cm;rintro e w2 ⟨rfl,h3⟩;have HE:=aA h3;clear cm h3;go_wp2_with fail;exact HR.o _ HE.o
 | false=>
  rw [hb] at cb hR;have cm:=aKd w1 h0 k (.slice va n vc) bl h4 (by rw [HN.o];exact HL.o);have HR:Hid (∀ w',Fam w0 w' (C5 b { d with m:=d.m.put (d.m.M.aH k bl).2.2 } z ++ l)->R (.returned (.tuple #[.int .i64 (d.m.M.aH k bl).1,.int .i64 (d.m.M.aH k bl).2.1])) w'):=fun w' h2=>hR.o _ _ ⟨rfl,z,⟨h1.o.ov,h1.o.mv,h1.o.mv2⟩,h2⟩;replace cm:Calls prog 82 #[.pointer (some ⟨z.hb,0,none⟩),.int .i64 k,.slice va n vc] w1 (fun e w'=>e=.returned (.tuple #[.int .i64 (d.m.M.aH k bl).1,.int .i64 (d.m.M.aH k bl).2.1])/\Fam w0 w' (C5 b { d with m:=d.m.put (d.m.M.aH k bl).2.2 } z ++ l)):=cm;clear hR hb h0 h6 h4 cg;generalize d.m.M.aH k bl=r at*;obtain ⟨r1,r2,r3⟩:=r;go_wp2_with fail;go_fit cb;rintro e _ ⟨rfl,rfl⟩;clear cb;go_wp2_with fail;go_fit cm;rintro e w2 ⟨rfl,h3⟩;have HE:=aA h3;clear cm h3;go_wp2_with fail;exact HR.o _ HE.o
end
section
variable {w0 w:World} {l:List Asn} {b:Nat} {c:Co} {x:CX} {i:Nat}
theorem aEN (w:World) (y:Fam w0 w (C5 b c x ++ l)) (hx:x.ok c) (a n:Int) (h:a≠0):Calls prog 46 #[.pointer (some ⟨b,0,none⟩),.int .i64 3,.int .i64 a,.int .i64 n] w (iC w0 l b (0,1,c)):=by
 refine aF fun R hR=>?_;obtain ⟨_,_,x2,_⟩:=dD.cells y;have z:=aJ w x2;have d:Hid (iC w0 l b (0,1,c) (.returned (.tuple #[.int .i64 0,.int .i64 1])) w):=⟨rfl,x,hx,y⟩;have e1:(a == 0)=false:=by simpa using h
 clear h;clear y hx;go_in;go_wp2_with fail;go_fit z;rintro e _ ⟨rfl,rfl⟩;clear z;go_wp2;exact hR.o _ _ d.o
theorem aDe (w:World) (y:Fam w0 w (C5 b c x ++ l)) (hx:x.ok c) (a n:Int) (h:a<0):Calls prog 46 #[.pointer (some ⟨b,0,none⟩),.int .i64 4,.int .i64 a,.int .i64 n] w (iC w0 l b (0,1,c)):=by
 refine aF fun R hR=>?_;obtain ⟨_,_,x2,_⟩:=dD.cells y;have z:=aJ w x2;have d:Hid (iC w0 l b (0,1,c) (.returned (.tuple #[.int .i64 0,.int .i64 1])) w):=⟨rfl,x,hx,y⟩;clear y hx;go_in;go_wp2_with fail;go_fit z;rintro e _ ⟨rfl,rfl⟩;clear z;go_wp2;exact hR.o _ _ d.o
theorem aDf (w:World) (y:Fam w0 w (C5 b c x ++ l)) (hx:x.ok c) (a n:Int) (h:10<=a):Calls prog 46 #[.pointer (some ⟨b,0,none⟩),.int .i64 4,.int .i64 a,.int .i64 n] w (iC w0 l b (0,1,c)):=by
 refine aF fun R hR=>?_;obtain ⟨_,_,x2,_⟩:=dD.cells y;have z:=aJ w x2;have d:Hid (iC w0 l b (0,1,c) (.returned (.tuple #[.int .i64 0,.int .i64 1])) w):=⟨rfl,x,hx,y⟩;have h0:0<=a:=by omega
 clear y hx;go_in;go_wp2_with fail;go_fit z;rintro e _ ⟨rfl,rfl⟩;clear z;go_wp2;exact hR.o _ _ d.o
theorem aEM (w:World) (y:Fam w0 w (C5 b c x ++ l)) (hx:x.ok c) (k a n:Int) (d:k≠3) (h4:k≠4):Calls prog 46 #[.pointer (some ⟨b,0,none⟩),.int .i64 k,.int .i64 a,.int .i64 n] w (iC w0 l b (0,1,c)):=by
 refine aF fun R hR=>?_;obtain ⟨_,_,x2,_⟩:=dD.cells y;have z:=aJ w x2;have HE:Hid (iC w0 l b (0,1,c) (.returned (.tuple #[.int .i64 0,.int .i64 1])) w):=⟨rfl,x,hx,y⟩;have e1:(k == 3)=false:=by simpa using d
 have e2:(k == 4)=false:=by simpa using h4
 clear d h4;clear y hx;go_in;go_wp2_with fail;go_fit z;rintro e _ ⟨rfl,rfl⟩;clear z;go_wp2;exact hR.o _ _ HE.o
theorem aDc (w:World) (y:Fam w0 w (C5 b c x ++ l)) (hx:x.ok c) (n:Int)  (h:n<0):Calls prog 46 #[.pointer (some ⟨b,0,none⟩),.int .i64 3,.int .i64 0,.int .i64 n] w (iC w0 l b (0,1,c)):=by
 refine aF fun R hR=>?_;obtain ⟨_,_,x2,_⟩:=dD.cells y;have z:=aJ w x2;have d:Hid (iC w0 l b (0,1,c) (.returned (.tuple #[.int .i64 0,.int .i64 1])) w):=⟨rfl,x,hx,y⟩;clear y hx;go_in;go_wp2_with fail;go_fit z;rintro e _ ⟨rfl,rfl⟩;clear z;go_wp2;exact hR.o _ _ d.o
theorem aDd (w:World) (y:Fam w0 w (C5 b c x ++ l)) (hx:x.ok c) (n:Int)  (h:48<n):Calls prog 46 #[.pointer (some ⟨b,0,none⟩),.int .i64 3,.int .i64 0,.int .i64 n] w (iC w0 l b (0,1,c)):=by
 refine aF fun R hR=>?_;obtain ⟨_,_,x2,_⟩:=dD.cells y;have z:=aJ w x2;have d:Hid (iC w0 l b (0,1,c) (.returned (.tuple #[.int .i64 0,.int .i64 1])) w):=⟨rfl,x,hx,y⟩;have h0:¬ n<0:=by omega
 clear y hx;go_in;go_wp2_with fail;go_fit z;rintro e _ ⟨rfl,rfl⟩;clear z;go_wp2;exact hR.o _ _ d.o
theorem aEK (w:World) (hf:Fam w0 w (C5 b c x ++ l)) (hx:x.ok c) (h0:c.Ok) (n:Int)  (h9:0<=n) (h8:n<=48) (h:n<8):Calls prog 46 #[.pointer (some ⟨b,0,none⟩),.int .i64 3,.int .i64 0,.int .i64 n] w (iC w0 l b ((c.give (c.rate*aBp n)).2.dW 3 0 n)):=by
 refine aF fun R hR=>?_;obtain ⟨_,x1,x2,_⟩:=dD.cells hf;have cn:=aJ w x2;have hP:c.rate*aBp n=c.rate:=by unfold aBp;rw [if_neg (by omega),Int.mul_one]
 have h7:=h0.k.rt;rw [hP] at hR;obtain ⟨P,h5⟩:∃ P,P=c.rate:=⟨_,rfl⟩;have e3:P*1=P:=Int.mul_one P;rw [<-h5] at hR h7;have h4:=aA (h0.give (n:=P) (by omega));have cg:=lV w hf hx h0 P ⟨by omega,by omega⟩;rw [<-h5] at x1;have n1:¬ n<0:=by omega
 have n2:¬ 48<n:=by omega
 clear hf hx h0 hP h5;obtain ⟨d,hd⟩:∃ d,d=(c.give P).2:=⟨_,rfl⟩;rw [<-hd] at cg h4 hR;generalize (c.give P).1=gn at*;clear hd;go_in;go_wp2_with fail;go_fit cn;rintro e _ ⟨rfl,rfl⟩;clear cn;go_wp2_with fail;go_fit cg;rintro e w1 ⟨rfl,y,h6,h1⟩;have cb:=iF w1 h1 h4.o.k;obtain ⟨_,_,z2,_,z4,_⟩:=dD.cells h1;have z:=aA h6;unfold Co.dW at hR
 cases hb:d.bar with
 | true=>
  rw [hb] at cb hR;have HR:Hid (∀ w',Fam w0 w' (C5 b { d with m:=(d.m.aG 3 0 n).2.2 } y ++ l)->R (.returned (.tuple #[.int .i64 (d.m.aG 3 0 n).1,.int .i64 (d.m.aG 3 0 n).2.1])) w'):=fun w' h2=>hR.o _ _ ⟨rfl,y,⟨z.o.ov,z.o.mv,z.o.mv2⟩,h2⟩;have cm:Calls prog 119 #[.pointer (some ⟨y.p,0,none⟩),.int .i64 3,.int .i64 0,.int .i64 n] w1 (fun e w'=>e=.returned (.tuple #[.int .i64 (d.m.aG 3 0 n).1,.int .i64 (d.m.aG 3 0 n).2.1])/\Fam w0 w' (C5 b { d with m:=(d.m.aG 3 0 n).2.2 } y ++ l)):=jQ w1 (C5.t2 (b:=b) (c:=d) (x:=y) (l:=l)) (hb:=y.hb) (p:=y.p) (m:=d.m) h1 (h4.o.k.mo (dM.1 hb)) 3 0 n;clear hR hb h1 h6 cg;generalize d.m.aG 3 0 n=r at*;obtain ⟨r1,r2,r3⟩:=r;go_wp2_with fail;go_fit cb;rintro e _ ⟨rfl,rfl⟩;clear cb;go_wp2_with fail;go_fit cm;rintro e w2 ⟨rfl,h3⟩;have HE:=aA h3;clear cm h3;go_wp2_with fail;exact HR.o _ HE.o
 | false=>
  rw [hb] at cb hR;have HR:Hid (∀ w',Fam w0 w' (C5 b { d with m:=d.m.put (d.m.M.aG 3 0 n).2.2 } y ++ l)->R (.returned (.tuple #[.int .i64 (d.m.M.aG 3 0 n).1,.int .i64 (d.m.M.aG 3 0 n).2.1])) w'):=fun w' h2=>hR.o _ _ ⟨rfl,y,⟨z.o.ov,z.o.mv,z.o.mv2⟩,h2⟩;have cm:Calls prog 120 #[.pointer (some ⟨y.hb,0,none⟩),.int .i64 3,.int .i64 0,.int .i64 n] w1 (fun e w'=>e=.returned (.tuple #[.int .i64 (d.m.M.aG 3 0 n).1,.int .i64 (d.m.M.aG 3 0 n).2.1])/\Fam w0 w' (C5 b { d with m:=d.m.put (d.m.M.aG 3 0 n).2.2 } y ++ l)):=sK w1 h1 3 0 n;clear hR hb h1 h6 cg;generalize d.m.M.aG 3 0 n=r at*;obtain ⟨r1,r2,r3⟩:=r;go_wp2_with fail;go_fit cb;rintro e _ ⟨rfl,rfl⟩;clear cb;go_wp2_with fail;go_fit cm;rintro e w2 ⟨rfl,h3⟩;have HE:=aA h3;clear cm h3;go_wp2_with fail;exact HR.o _ HE.o
theorem aEL (w:World) (hf:Fam w0 w (C5 b c x ++ l)) (hx:x.ok c) (h0:c.Ok) (n:Int)  (x3:0<=n) (h9:n<=48) (h:8<=n):Calls prog 46 #[.pointer (some ⟨b,0,none⟩),.int .i64 3,.int .i64 0,.int .i64 n] w (iC w0 l b ((c.give (c.rate*aBp n)).2.dW 3 0 n)):=by
 refine aF fun R hR=>?_;obtain ⟨_,x1,x2,_⟩:=dD.cells hf;have cn:=aJ w x2;obtain ⟨q,hq⟩:∃ q,q=(n+7).tdiv 8:=⟨_,rfl⟩;have x4:1<=q/\q<=6:=by rw [hq,Int.tdiv_eq_ediv_of_nonneg (by omega)];omega
 have hP:c.rate*aBp n=c.rate*(1+q):=by unfold aBp;rw [if_pos (by omega),hq]
 have h8:0<=c.rate*(1+q)/\c.rate*(1+q)<=700:=by
  have:=h0.k.rt;have h7:c.rate*(1+q)<=100*7:=Int.mul_le_mul this.2 (by omega) (by omega) (by omega);exact ⟨Int.mul_nonneg this.1 (by omega),by omega⟩
 have e1:(n+8 - 1).tdiv 8=q:=by rw [hq,show n+8 - 1=n+7 by omega]
 have e2:(n+7).tdiv 8=q:=hq.symm;rw [hP] at hR;obtain ⟨P,h5⟩:∃ P,P=c.rate*(1+q):=⟨_,rfl⟩;have e3:c.rate*(1+q)=P:=h5.symm;rw [<-h5] at hR h8;have h4:=aA (h0.give (n:=P) (by omega));have cg:=lV w hf hx h0 P ⟨by omega,by omega⟩;have n1:¬ n<0:=by omega
 have n2:¬ 48<n:=by omega
 clear hf hx h0 hP h5 hq;obtain ⟨d,hd⟩:∃ d,d=(c.give P).2:=⟨_,rfl⟩;rw [<-hd] at cg h4 hR;generalize (c.give P).1=gn at*;clear hd;generalize c.rate=rt at*;go_in;go_wp2_with fail;go_fit cn;rintro e _ ⟨rfl,rfl⟩;clear cn;go_wp2_with fail;go_fit cg;rintro e w1 ⟨rfl,y,h6,h1⟩;have cb:=iF w1 h1 h4.o.k;obtain ⟨_,_,z2,_,z4,_⟩:=dD.cells h1;have z:=aA h6;unfold Co.dW at hR
 cases hb:d.bar with
 | true=>
  rw [hb] at cb hR;have HR:Hid (∀ w',Fam w0 w' (C5 b { d with m:=(d.m.aG 3 0 n).2.2 } y ++ l)->R (.returned (.tuple #[.int .i64 (d.m.aG 3 0 n).1,.int .i64 (d.m.aG 3 0 n).2.1])) w'):=fun w' h2=>hR.o _ _ ⟨rfl,y,⟨z.o.ov,z.o.mv,z.o.mv2⟩,h2⟩;have cm:Calls prog 119 #[.pointer (some ⟨y.p,0,none⟩),.int .i64 3,.int .i64 0,.int .i64 n] w1 (fun e w'=>e=.returned (.tuple #[.int .i64 (d.m.aG 3 0 n).1,.int .i64 (d.m.aG 3 0 n).2.1])/\Fam w0 w' (C5 b { d with m:=(d.m.aG 3 0 n).2.2 } y ++ l)):=jQ w1 (C5.t2 (b:=b) (c:=d) (x:=y) (l:=l)) (hb:=y.hb) (p:=y.p) (m:=d.m) h1 (h4.o.k.mo (dM.1 hb)) 3 0 n;clear hR hb h1 h6 cg;generalize d.m.aG 3 0 n=r at*;obtain ⟨r1,r2,r3⟩:=r;go_wp2_with fail;go_fit cb;rintro e _ ⟨rfl,rfl⟩;clear cb;go_wp2_with fail;go_fit cm;rintro e w2 ⟨rfl,h3⟩;have HE:=aA h3;clear cm h3;go_wp2_with fail;exact HR.o _ HE.o
 | false=>
  rw [hb] at cb hR;have HR:Hid (∀ w',Fam w0 w' (C5 b { d with m:=d.m.put (d.m.M.aG 3 0 n).2.2 } y ++ l)->R (.returned (.tuple #[.int .i64 (d.m.M.aG 3 0 n).1,.int .i64 (d.m.M.aG 3 0 n).2.1])) w'):=fun w' h2=>hR.o _ _ ⟨rfl,y,⟨z.o.ov,z.o.mv,z.o.mv2⟩,h2⟩;have cm:Calls prog 120 #[.pointer (some ⟨y.hb,0,none⟩),.int .i64 3,.int .i64 0,.int .i64 n] w1 (fun e w'=>e=.returned (.tuple #[.int .i64 (d.m.M.aG 3 0 n).1,.int .i64 (d.m.M.aG 3 0 n).2.1])/\Fam w0 w' (C5 b { d with m:=d.m.put (d.m.M.aG 3 0 n).2.2 } y ++ l)):=sK w1 h1 3 0 n;clear hR hb h1 h6 cg;generalize d.m.M.aG 3 0 n=r at*;obtain ⟨r1,r2,r3⟩:=r;go_wp2_with fail;go_fit cb;rintro e _ ⟨rfl,rfl⟩;clear cb;go_wp2_with fail;go_fit cm;rintro e w2 ⟨rfl,h3⟩;have HE:=aA h3;clear cm h3;go_wp2_with fail;exact HR.o _ HE.o
theorem aDa (w:World) (y:Fam w0 w (C5 b c x ++ l)) (hx:x.ok c) (a n:Int) (a1:0<=a) (a2:a<10) (h:n<0):Calls prog 46 #[.pointer (some ⟨b,0,none⟩),.int .i64 4,.int .i64 a,.int .i64 n] w (iC w0 l b (0,1,c)):=by
 refine aF fun R hR=>?_;obtain ⟨_,_,x2,_⟩:=dD.cells y;have z:=aJ w x2;have d:Hid (iC w0 l b (0,1,c) (.returned (.tuple #[.int .i64 0,.int .i64 1])) w):=⟨rfl,x,hx,y⟩;clear y hx;go_in;go_wp2_with fail;go_fit z;rintro e _ ⟨rfl,rfl⟩;clear z;go_wp2;exact hR.o _ _ d.o
theorem aDb (w:World) (y:Fam w0 w (C5 b c x ++ l)) (hx:x.ok c) (a n:Int) (a1:0<=a) (a2:a<10) (h:48<n):Calls prog 46 #[.pointer (some ⟨b,0,none⟩),.int .i64 4,.int .i64 a,.int .i64 n] w (iC w0 l b (0,1,c)):=by
 refine aF fun R hR=>?_;obtain ⟨_,_,x2,_⟩:=dD.cells y;have z:=aJ w x2;have d:Hid (iC w0 l b (0,1,c) (.returned (.tuple #[.int .i64 0,.int .i64 1])) w):=⟨rfl,x,hx,y⟩;have h0:¬ n<0:=by omega
 clear y hx;go_in;go_wp2_with fail;go_fit z;rintro e _ ⟨rfl,rfl⟩;clear z;go_wp2;exact hR.o _ _ d.o
theorem aEI (w:World) (hf:Fam w0 w (C5 b c x ++ l)) (hx:x.ok c) (h0:c.Ok) (a n:Int) (a1:0<=a) (a2:a<10) (h9:0<=n) (h8:n<=48) (h:n<8):Calls prog 46 #[.pointer (some ⟨b,0,none⟩),.int .i64 4,.int .i64 a,.int .i64 n] w (iC w0 l b ((c.give (c.rate*aBp n)).2.dW 4 a n)):=by
 refine aF fun R hR=>?_;obtain ⟨_,x1,x2,_⟩:=dD.cells hf;have cn:=aJ w x2;have hP:c.rate*aBp n=c.rate:=by unfold aBp;rw [if_neg (by omega),Int.mul_one]
 have h7:=h0.k.rt;rw [hP] at hR;obtain ⟨P,h5⟩:∃ P,P=c.rate:=⟨_,rfl⟩;have e3:P*1=P:=Int.mul_one P;rw [<-h5] at hR h7;have h4:=aA (h0.give (n:=P) (by omega));have cg:=lV w hf hx h0 P ⟨by omega,by omega⟩;rw [<-h5] at x1;have n1:¬ n<0:=by omega
 have n2:¬ 48<n:=by omega
 clear hf hx h0 hP h5;obtain ⟨d,hd⟩:∃ d,d=(c.give P).2:=⟨_,rfl⟩;rw [<-hd] at cg h4 hR;generalize (c.give P).1=gn at*;clear hd;go_in;go_wp2_with fail;go_fit cn;rintro e _ ⟨rfl,rfl⟩;clear cn;go_wp2_with fail;go_fit cg;rintro e w1 ⟨rfl,y,h6,h1⟩;have cb:=iF w1 h1 h4.o.k;obtain ⟨_,_,z2,_,z4,_⟩:=dD.cells h1;have z:=aA h6;unfold Co.dW at hR
 cases hb:d.bar with
 | true=>
  rw [hb] at cb hR;have HR:Hid (∀ w',Fam w0 w' (C5 b { d with m:=(d.m.aG 4 a n).2.2 } y ++ l)->R (.returned (.tuple #[.int .i64 (d.m.aG 4 a n).1,.int .i64 (d.m.aG 4 a n).2.1])) w'):=fun w' h2=>hR.o _ _ ⟨rfl,y,⟨z.o.ov,z.o.mv,z.o.mv2⟩,h2⟩;have cm:Calls prog 119 #[.pointer (some ⟨y.p,0,none⟩),.int .i64 4,.int .i64 a,.int .i64 n] w1 (fun e w'=>e=.returned (.tuple #[.int .i64 (d.m.aG 4 a n).1,.int .i64 (d.m.aG 4 a n).2.1])/\Fam w0 w' (C5 b { d with m:=(d.m.aG 4 a n).2.2 } y ++ l)):=jQ w1 (C5.t2 (b:=b) (c:=d) (x:=y) (l:=l)) (hb:=y.hb) (p:=y.p) (m:=d.m) h1 (h4.o.k.mo (dM.1 hb)) 4 a n;clear hR hb h1 h6 cg;generalize d.m.aG 4 a n=r at*;obtain ⟨r1,r2,r3⟩:=r;go_wp2_with fail;go_fit cb;rintro e _ ⟨rfl,rfl⟩;clear cb;go_wp2_with fail;go_fit cm;rintro e w2 ⟨rfl,h3⟩;have HE:=aA h3;clear cm h3;go_wp2_with fail;exact HR.o _ HE.o
 | false=>
  rw [hb] at cb hR;have HR:Hid (∀ w',Fam w0 w' (C5 b { d with m:=d.m.put (d.m.M.aG 4 a n).2.2 } y ++ l)->R (.returned (.tuple #[.int .i64 (d.m.M.aG 4 a n).1,.int .i64 (d.m.M.aG 4 a n).2.1])) w'):=fun w' h2=>hR.o _ _ ⟨rfl,y,⟨z.o.ov,z.o.mv,z.o.mv2⟩,h2⟩;have cm:Calls prog 120 #[.pointer (some ⟨y.hb,0,none⟩),.int .i64 4,.int .i64 a,.int .i64 n] w1 (fun e w'=>e=.returned (.tuple #[.int .i64 (d.m.M.aG 4 a n).1,.int .i64 (d.m.M.aG 4 a n).2.1])/\Fam w0 w' (C5 b { d with m:=d.m.put (d.m.M.aG 4 a n).2.2 } y ++ l)):=sK w1 h1 4 a n;clear hR hb h1 h6 cg;generalize d.m.M.aG 4 a n=r at*;obtain ⟨r1,r2,r3⟩:=r;go_wp2_with fail;go_fit cb;rintro e _ ⟨rfl,rfl⟩;clear cb;go_wp2_with fail;go_fit cm;rintro e w2 ⟨rfl,h3⟩;have HE:=aA h3;clear cm h3;go_wp2_with fail;exact HR.o _ HE.o
theorem aEJ (w:World) (hf:Fam w0 w (C5 b c x ++ l)) (hx:x.ok c) (h0:c.Ok) (a n:Int) (a1:0<=a) (a2:a<10) (x3:0<=n) (h9:n<=48) (h:8<=n):Calls prog 46 #[.pointer (some ⟨b,0,none⟩),.int .i64 4,.int .i64 a,.int .i64 n] w (iC w0 l b ((c.give (c.rate*aBp n)).2.dW 4 a n)):=by
 refine aF fun R hR=>?_;obtain ⟨_,x1,x2,_⟩:=dD.cells hf;have cn:=aJ w x2;obtain ⟨q,hq⟩:∃ q,q=(n+7).tdiv 8:=⟨_,rfl⟩;have x4:1<=q/\q<=6:=by rw [hq,Int.tdiv_eq_ediv_of_nonneg (by omega)];omega
 have hP:c.rate*aBp n=c.rate*(1+q):=by unfold aBp;rw [if_pos (by omega),hq]
 have h8:0<=c.rate*(1+q)/\c.rate*(1+q)<=700:=by
  have:=h0.k.rt;have h7:c.rate*(1+q)<=100*7:=Int.mul_le_mul this.2 (by omega) (by omega) (by omega);exact ⟨Int.mul_nonneg this.1 (by omega),by omega⟩
 have e1:(n+8 - 1).tdiv 8=q:=by rw [hq,show n+8 - 1=n+7 by omega]
 have e2:(n+7).tdiv 8=q:=hq.symm;rw [hP] at hR;obtain ⟨P,h5⟩:∃ P,P=c.rate*(1+q):=⟨_,rfl⟩;have e3:c.rate*(1+q)=P:=h5.symm;rw [<-h5] at hR h8;have h4:=aA (h0.give (n:=P) (by omega));have cg:=lV w hf hx h0 P ⟨by omega,by omega⟩;have n1:¬ n<0:=by omega
 have n2:¬ 48<n:=by omega
 clear hf hx h0 hP h5 hq;obtain ⟨d,hd⟩:∃ d,d=(c.give P).2:=⟨_,rfl⟩;rw [<-hd] at cg h4 hR;generalize (c.give P).1=gn at*;clear hd;generalize c.rate=rt at*;go_in;go_wp2_with fail;go_fit cn;rintro e _ ⟨rfl,rfl⟩;clear cn;go_wp2_with fail;go_fit cg;rintro e w1 ⟨rfl,y,h6,h1⟩;have cb:=iF w1 h1 h4.o.k;obtain ⟨_,_,z2,_,z4,_⟩:=dD.cells h1;have z:=aA h6;unfold Co.dW at hR
 cases hb:d.bar with
 | true=>
  rw [hb] at cb hR;have HR:Hid (∀ w',Fam w0 w' (C5 b { d with m:=(d.m.aG 4 a n).2.2 } y ++ l)->R (.returned (.tuple #[.int .i64 (d.m.aG 4 a n).1,.int .i64 (d.m.aG 4 a n).2.1])) w'):=fun w' h2=>hR.o _ _ ⟨rfl,y,⟨z.o.ov,z.o.mv,z.o.mv2⟩,h2⟩;have cm:Calls prog 119 #[.pointer (some ⟨y.p,0,none⟩),.int .i64 4,.int .i64 a,.int .i64 n] w1 (fun e w'=>e=.returned (.tuple #[.int .i64 (d.m.aG 4 a n).1,.int .i64 (d.m.aG 4 a n).2.1])/\Fam w0 w' (C5 b { d with m:=(d.m.aG 4 a n).2.2 } y ++ l)):=jQ w1 (C5.t2 (b:=b) (c:=d) (x:=y) (l:=l)) (hb:=y.hb) (p:=y.p) (m:=d.m) h1 (h4.o.k.mo (dM.1 hb)) 4 a n;clear hR hb h1 h6 cg;generalize d.m.aG 4 a n=r at*;obtain ⟨r1,r2,r3⟩:=r;go_wp2_with fail;go_fit cb;rintro e _ ⟨rfl,rfl⟩;clear cb;go_wp2_with fail;go_fit cm;rintro e w2 ⟨rfl,h3⟩;have HE:=aA h3;clear cm h3;go_wp2_with fail;exact HR.o _ HE.o
 | false=>
  rw [hb] at cb hR;have HR:Hid (∀ w',Fam w0 w' (C5 b { d with m:=d.m.put (d.m.M.aG 4 a n).2.2 } y ++ l)->R (.returned (.tuple #[.int .i64 (d.m.M.aG 4 a n).1,.int .i64 (d.m.M.aG 4 a n).2.1])) w'):=fun w' h2=>hR.o _ _ ⟨rfl,y,⟨z.o.ov,z.o.mv,z.o.mv2⟩,h2⟩;have cm:Calls prog 120 #[.pointer (some ⟨y.hb,0,none⟩),.int .i64 4,.int .i64 a,.int .i64 n] w1 (fun e w'=>e=.returned (.tuple #[.int .i64 (d.m.M.aG 4 a n).1,.int .i64 (d.m.M.aG 4 a n).2.1])/\Fam w0 w' (C5 b { d with m:=d.m.put (d.m.M.aG 4 a n).2.2 } y ++ l)):=sK w1 h1 4 a n;clear hR hb h1 h6 cg;generalize d.m.M.aG 4 a n=r at*;obtain ⟨r1,r2,r3⟩:=r;go_wp2_with fail;go_fit cb;rintro e _ ⟨rfl,rfl⟩;clear cb;go_wp2_with fail;go_fit cm;rintro e w2 ⟨rfl,h3⟩;have HE:=aA h3;clear cm h3;go_wp2_with fail;exact HR.o _ HE.o
theorem aCj (w:World) (y:Fam w0 w (C5 b c x ++ l)) (hx:x.ok c) (h:c.Ok) (k a n:Int):Calls prog 46 #[.pointer (some ⟨b,0,none⟩),.int .i64 k,.int .i64 a,.int .i64 n] w (iC w0 l b (c.aG k a n)):=by
 by_cases z:(k=3/\a=0)\/(k=4/\0<=a/\a<10)
 ·by_cases n0:n<0
  ·rw [show c.aG k a n=(0,1,c) by unfold Co.aG;rw [if_pos (.inl n0)]];rcases z with ⟨rfl,rfl⟩|⟨rfl,d,a2⟩
   ·exact aDc w y hx n n0
   exact aDa w y hx a n d a2 n0
  by_cases n4:48<n
  ·rw [show c.aG k a n=(0,1,c) by unfold Co.aG;rw [if_pos (.inr (.inl n4))]];rcases z with ⟨rfl,rfl⟩|⟨rfl,d,a2⟩
   ·exact aDd w y hx n n4
   exact aDb w y hx a n d a2 n4
  rw [show c.aG k a n=(c.give (c.rate*aBp n)).2.dW k a n by unfold Co.aG;rw [if_neg (fun e=>by rcases e with e|e|e;exact n0 e;exact n4 e;exact e z)]]
  by_cases n8:n<8
  ·rcases z with ⟨rfl,rfl⟩|⟨rfl,d,a2⟩
   ·exact aEK w y hx h n (by omega) (by omega) n8
   exact aEI w y hx h a n d a2 (by omega) (by omega) n8
  rcases z with ⟨rfl,rfl⟩|⟨rfl,d,a2⟩
  ·exact aEL w y hx h n (by omega) (by omega) (by omega)
  exact aEJ w y hx h a n d a2 (by omega) (by omega) (by omega)
 rw [show c.aG k a n=(0,1,c) by unfold Co.aG;rw [if_pos (.inr (.inr z))]]
 by_cases h3:k=3
 ·subst h3;exact aEN w y hx a n (fun e=>z (.inl ⟨rfl,e⟩))
 by_cases h4:k=4
 ·subst h4
  by_cases a0:a<0
  ·exact aDe w y hx a n a0
  exact aDf w y hx a n (by have:=fun e=>z (.inr ⟨rfl,by omega,e⟩);omega)
 exact aEM w y hx k a n h3 h4
end
section
variable {w0 w:World} {l:List Asn} {b:Nat} {c:Co} {x:CX} {i:Nat}
theorem aIM (h:c.Okc) (y:Int):wfI (c.t.target y).1:=by
 unfold Tb.target;split
 ·exact dI (by decide)
 have:=h.tg.b.tg h.hf.ok (i:=y.toNat) (by omega);show wfI (eAt c.t.ents y.toNat).tgt;exact dI (by omega)
theorem aFk (w:World) (hf:Fam w0 w (C5 b c x ++ l)) (hx:x.ok c) (h:c.Okc) (y:Int):Calls prog 49 #[.pointer (some ⟨b,0,none⟩),.int .i64 y] w (iC w0 l b (c.target y)):=by
 refine aF fun R d=>?_;obtain ⟨_,_,x2,x3,_⟩:=dD.cells hf;have cn:=aJ w x2;obtain ⟨ev,qv,mo,ht⟩:=C5.tb hf;have ct:=aEp w ht y;have HW:=aA (aIM h y);have HF:=aA hf;have HX:=aA hx;have HH:=aA h;unfold Co.target at d;clear hf hx h ht;obtain ⟨t1,h0⟩:∃ z,z=(c.t.target y).1:=⟨_,rfl⟩;obtain ⟨t2,h1⟩:∃ z,z=(c.t.target y).2:=⟨_,rfl⟩;rw [<-h0,<-h1] at ct;rw [<-h0,<-h1] at d;rw [<-h0] at HW;clear h0 h1
 by_cases he:t2≠0
 ·rw [if_pos he] at d;have h4:(t2 != 0)=true:=by simpa using he
  clear he;go_in;go_wp2_with fail;go_fit cn;rintro e _ ⟨rfl,rfl⟩;go_wp2_with fail;go_fit ct;rintro e w1 ⟨rfl,ho⟩;have F1:=aA (HF.o.aK ho);clear ct ho;go_wp2;exact d.o _ _ ⟨rfl,x,HX.o,F1.o⟩
 rw [if_neg he] at d;obtain rfl:t2=0:=Classical.not_not.1 he;clear he;go_in;go_wp2_with fail;go_fit cn;rintro e _ ⟨rfl,rfl⟩;go_wp2_with fail;go_fit ct;rintro e w1 ⟨rfl,ho⟩;have F1:=aA (HF.o.aK ho);have ch:=fH w1 F1.o HH.o t1 HW.o;clear ct ho HF
 cases hh:c.hid t1 with
 | true=>
  rw [hh] at ch d;replace d:Hid (∀ e w',iC w0 l b (0,0,c) e w'->R e w'):=d;clear hh;go_wp2_with fail;go_fit ch;rintro e _ ⟨rfl,k,rfl⟩;have F2:=aA (F1.o.drewN k);clear ch;go_wp2;exact d.o _ _ ⟨rfl,x,HX.o,F2.o⟩
 | false=>
  rw [hh] at ch d;replace d:Hid (∀ e w',iC w0 l b (t1,0,if c.ph=1 then { c with m:=c.m.bG t1 } else c) e w'->R e w'):=d;clear hh;go_wp2_with fail;go_fit ch;rintro e _ ⟨rfl,k,rfl⟩;have F2:=aA (F1.o.drewN k);generalize w1.drewN k=w2 at*;obtain ⟨_,_,_,_,z4,z5,_⟩:=dD.cells F2.o;clear ch F1
  by_cases hp:c.ph=1
  ·rw [if_pos hp] at d;rw [hp] at z5;have cs:=aAS w2 (C5.t2 (b:=b) (c:=c) (x:=x) (l:=l)) (hb:=x.hb) (p:=x.p) (m:=c.m) F2.o (HH.o.mo (.inl hp)) t1 HW.o;clear hp;go_wp2_with fail;go_fit cs;rintro e w3 ⟨rfl,h2⟩;have F3:Hid (Fam w0 w3 (C5 b { c with m:=c.m.bG t1 } x ++ l)):=h2;clear cs h2;go_wp2;exact d.o _ _ ⟨rfl,x,⟨HX.o.ov,HX.o.mv,HX.o.mv2⟩,F3.o⟩
  rw [if_neg hp] at d;have h5:((c.ph:Int) == 1)=false:=by rw [beq_eq_false_iff_ne];omega
  generalize h3:c.ph=ph at*;clear hp h3;go_wp2;exact d.o _ _ ⟨rfl,x,HX.o,F2.o⟩
theorem aPw {t:Tb} {m:Mk} (k x g:Int):((t.add m k x g).2.1=1↔(k<1\/3<k)):=by
 unfold Tb.add;split
 ·rename_i h;exact ⟨fun _=>h,fun _=>rfl⟩
 rename_i h;refine ⟨fun e=>?_,fun e=>absurd e h⟩;split at e
 ·cases e
 split at e
 ·cases e
 split at e
 ·cases e
 cases e
theorem aLb (w:World) (hf:Fam w0 w (C5 b c x ++ l)) (ht:c.t.ph=0) (k y g:Int) (hy:wfI y):Calls prog 85 #[.pointer (some ⟨x.tb,0,none⟩),.pointer (some ⟨x.p,0,none⟩),.int .i64 k,.int .i64 y,.int .i64 g] w (fun e w'=>e=.returned (.tuple #[.int .i64 (c.t.add c.m k y g).1,.int .i64 (c.t.add c.m k y g).2.1])/\Fam w0 w' (C5 b (c.eU (c.t.add c.m k y g).2.2) x ++ l)):=by
 refine (aFD w (C5.t3 (b:=b) (c:=c) (x:=x) (l:=l)) (hb:=x.hb) (p:=x.p) (b:=x.tb) (m:=c.m) (t:=c.t) (kk:=c.t.ents.length) hf k y g hy).mono fun e w' ⟨z,d⟩=>⟨z,?_⟩;exact PL.aSS (C5.t3 (b:=b) (c:=c) (x:=x) (l:=l)) d (by rw [aOa,ht];decide) (c.t.add c.m k y g).2.2.ents.length (c.t.add c.m k y g).2.2.fd
theorem aLc (w:World) {z:Nat} (hf:Fam w0 w (C5 b c x ++ (l ++ [TbA z c.t c.t.ents.length]))) (k y g:Int) (hy:wfI y):Calls prog 85 #[.pointer (some ⟨z,0,none⟩),.pointer (some ⟨x.p,0,none⟩),.int .i64 k,.int .i64 y,.int .i64 g] w (fun e w'=>e=.returned (.tuple #[.int .i64 (c.t.add c.m k y g).1,.int .i64 (c.t.add c.m k y g).2.1])/\Fam w0 w' (C5 b c x ++ l)):=by
 have h0:Fam w0 w (TbA z c.t c.t.ents.length :: (C5 b c x ++ l)):=by
  have d:Fam w0 w ((C5 b c x ++ l) ++ [TbA z c.t c.t.ents.length]):=hf;exact d.front
 refine (aFD w (l:=TbA z c.t c.t.ents.length :: (C5 b c x ++ l)) (i:=1) (j:=2) (k:=0) ⟨⟨by simp [C5],by simp [C5],by decide⟩,by simp,by decide,by decide⟩ (hb:=x.hb) (p:=x.p) (b:=z) (m:=c.m) (t:=c.t) (kk:=c.t.ents.length) h0 k y g hy).mono fun e w' ⟨d,h2⟩=>⟨d,?_⟩;have h3:Fam w0 w' (TbA z (c.t.add c.m k y g).2.2 c.t.ents.length :: (C5 b c x ++ l)):=h2;exact h3.aRM
theorem aQD (y:Int) (z:wfI y):wfI (if c.hid y then 0 else y):=by
 split
 ·exact dI (by decide)
 exact z
theorem aIb (w:World) (hf:Fam w0 w (C5 b c x ++ l)) (hx:x.ok c) (h:c.Okc) (k y g:Int) (hy:wfI y):Calls prog 48 #[.pointer (some ⟨b,0,none⟩),.int .i64 k,.int .i64 y,.int .i64 g] w (iC w0 l b (c.refer k y g)):=by
 refine aF fun R hR=>?_;obtain ⟨_,_,x2,_⟩:=dD.cells hf;have cn:=aJ w x2;have ch:=fH w hf h y hy;have HF:=aA hf;have HX:=aA hx;have HH:=aA h;obtain ⟨z,hz⟩:∃ z,z=if c.hid y then 0 else y:=⟨_,rfl⟩;have h6:Hid (wfI z):=by rw [hz];exact aQD y hy
 have HZ:=aA hz;unfold Co.refer at hR;rw [<-hz] at hR;clear hf hx h hy hz
 by_cases hp:c.ph=2
 ·rw [if_pos hp] at hR;have HP:=aA hp;have h5:Hid (∀ wx,Fam w0 wx (C5 b c x ++ l)->Calls prog 109 #[.pointer (some ⟨x.tb,0,none⟩)] wx (fun e w'=>∃ t2,e=.returned (.pointer (some ⟨t2,0,none⟩))/\Fam w0 w' (C5 b c x ++ (l ++ [TbA t2 c.t c.t.ents.length])))):=fun wx hx=>by
   obtain ⟨ev,qv,mo,ht⟩:=C5.tb hx;refine (aCC wx ht HH.o.tg.b.le (by have:=HH.o.tg.b.q20;omega)).mono fun e w' ⟨t2,d,h2⟩=>⟨t2,d,hx.add h2⟩
  have h0:Hid (∀ wx t2,Fam w0 wx (C5 b c x ++ (l ++ [TbA t2 c.t c.t.ents.length]))->Calls prog 85 #[.pointer (some ⟨t2,0,none⟩),.pointer (some ⟨x.p,0,none⟩),.int .i64 k,.int .i64 z,.int .i64 g] wx (fun e w'=>e=.returned (.tuple #[.int .i64 (c.t.add c.m k z g).1,.int .i64 (c.t.add c.m k z g).2.1])/\Fam w0 w' (C5 b c x ++ l))):=fun wx t2 hx=>aLc wx hx k z g h6.o;have h4:=aPw (t:=c.t) (m:=c.m) k z g;have HR:Hid (∀ w',Fam w0 w' (C5 b c x ++ l)->R (.returned (.tuple #[.int .i64 0,.int .i64 (if k<1\/3<k then 1 else 13)])) w'):=fun w' h2=>hR.o _ _ ⟨rfl,x,HX.o,h2⟩;have h7:(if k<1\/3<k then (1:Int) else 13)=if (c.t.add c.m k z g).2.1=1 then 1 else 13:=by
   by_cases e:k<1\/3<k
   ·rw [if_pos e,if_pos (h4.2 e)]
   rw [if_neg e,if_neg (fun e2=>e (h4.1 e2))]
  rw [h7] at HR;clear hR hp h4 h7;generalize (c.t.add c.m k z g).2.1=ae at*;generalize (c.t.add c.m k z g).1=an at*;have h3:Hid ((c.hid y=true/\z=0)\/(c.hid y=false/\z=y)):=by
   have d:=HZ.o;show _\/_
   cases e:c.hid y with
   | true=>rw [e] at d;exact .inl ⟨rfl,by simpa using d⟩
   | false=>rw [e] at d;exact .inr ⟨rfl,by simpa using d⟩
  have h9:∀ (v:Value),v=.int .i64 z->True:=fun _ _=>trivial;clear h9;rcases h3.o with ⟨hh,rfl⟩|⟨hh,rfl⟩
  all_goals
   rw [hh] at ch;clear hh h3 HZ
   by_cases d:ae=1
   all_goals
    first
     | (subst d;replace HR:Hid (∀ w',Fam w0 w' (C5 b c x ++ l)->R (.returned (.tuple #[.int .i64 0,.int .i64 1])) w'):=HR)
     | (rw [if_neg d] at HR;have x1:(ae != 1)=true:=(by simpa using d);clear d)
    go_in;go_wp2_with fail;go_fit cn;rintro e _ ⟨rfl,rfl⟩;clear cn;go_wp2_with fail;go_fit ch;rintro e _ ⟨rfl,kk,rfl⟩;have F1:=aA (HF.o.drewN kk);generalize w.drewN kk=w1 at*;have z5:=(dD.cells F1.o).2.2.2.2.2.1;rw [HP.o] at z5;clear ch;go_upto_region 6 with fail;go_region_held3 (fun w'=>w'.cell? ⟨b,3,none⟩=some (.pointer (some ⟨x.tb,0,none⟩))/\w'.cell? ⟨b,4,none⟩=some (.pointer (some ⟨x.p,0,none⟩)))
     (first|(exact ⟨(C5.row F1.o).cell 3 rfl,(C5.row F1.o).cell 4 rfl⟩)|(exact ⟨(C5.row F3.o).cell 3 rfl,(C5.row F3.o).cell 4 rfl⟩)|(exact ⟨(C5.row F2.o).cell 3 rfl,(C5.row F2.o).cell 4 rfl⟩))
     (first
      | (go_at_call 109;refine (h5.o _ F1.o.drew).mono ?_;rintro e w2 ⟨t2,rfl,f2⟩;have F2:=aA f2;clear f2)
      | (go_at_call 85;refine (h0.o _ _ F2.o).mono ?_;rintro e w3 ⟨rfl,f3⟩;have F3:=aA f3;clear f3))
    clear h5 h0 F1 F2 z5;go_wp2_with fail;exact HR.o _ F3.o
 rw [if_neg hp] at hR;have h8:=aA (HH.o.t0 hp);have h0:Hid (∀ wx,Fam w0 wx (C5 b c x ++ l)->Calls prog 85 #[.pointer (some ⟨x.tb,0,none⟩),.pointer (some ⟨x.p,0,none⟩),.int .i64 k,.int .i64 z,.int .i64 g] wx (fun e w'=>e=.returned (.tuple #[.int .i64 (c.t.add c.m k z g).1,.int .i64 (c.t.add c.m k z g).2.1])/\Fam w0 w' (C5 b (c.eU (c.t.add c.m k z g).2.2) x ++ l))):=fun wx hx=>aLb wx hx h8.o k z g h6.o;have x3:((c.ph:Int) == 2)=false:=by rw [beq_eq_false_iff_ne];omega
 have HR:Hid (∀ w',Fam w0 w' (C5 b (c.eU (c.t.add c.m k z g).2.2) x ++ l)->R (.returned (.tuple #[.int .i64 (c.t.add c.m k z g).1,.int .i64 (c.t.add c.m k z g).2.1])) w'):=fun w' h2=>hR.o _ _ ⟨rfl,x,⟨fun e=>absurd (show c.ph=2 from e) hp,HX.o.mv,HX.o.mv2⟩,h2⟩;clear hR hp;generalize c.t.add c.m k z g=ar at*;obtain ⟨a1,a2,a3⟩:=ar;have h3:Hid ((c.hid y=true/\z=0)\/(c.hid y=false/\z=y)):=by
  have d:=HZ.o;show _\/_
  cases e:c.hid y with
  | true=>rw [e] at d;exact .inl ⟨rfl,by simpa using d⟩
  | false=>rw [e] at d;exact .inr ⟨rfl,by simpa using d⟩
 rcases h3.o with ⟨hh,rfl⟩|⟨hh,rfl⟩
 all_goals
  rw [hh] at ch;clear hh h3 HZ;go_in;go_wp2_with fail;go_fit cn;rintro e _ ⟨rfl,rfl⟩;clear cn;go_wp2_with fail;go_fit ch;rintro e _ ⟨rfl,kk,rfl⟩;have F1:=aA (HF.o.drewN kk);generalize w.drewN kk=w1 at*;have z5:=(dD.cells F1.o).2.2.2.2.2.1;clear ch;generalize c.ph=ph at*;go_upto_region 10 with fail;go_region_held3 (fun w'=>w'.cell? ⟨b,3,none⟩=some (.pointer (some ⟨x.tb,0,none⟩))/\w'.cell? ⟨b,4,none⟩=some (.pointer (some ⟨x.p,0,none⟩)))
   (first|(exact ⟨(C5.row F1.o).cell 3 rfl,(C5.row F1.o).cell 4 rfl⟩)|(exact ⟨(C5.row F3.o).cell 3 rfl,(C5.row F3.o).cell 4 rfl⟩))
   (first
    | (go_at_call 85;refine (h0.o _ F1.o.drew).mono ?_;rintro e w3 ⟨rfl,f3⟩;have F3:=aA f3;clear f3))
  clear h0 F1 z5;go_wp2_with fail;exact HR.o _ F3.o
end
section
variable {w0 w:World} {l:List Asn} {b:Nat} {c:Co} {x:CX} {i:Nat}
theorem Fam.aPW {A B Z:Asn} {L:List Asn} (h:Fam w0 w ((A :: B :: L) ++ [Z])):Fam w0 w (A :: Z :: L):=by
 refine h.selC (fun k=>if k=1 then L.length+2 else k) (fun k Y hk=>?_) (fun j k hj hk hne=>?_)
 ·match k with
  | 0=>exact hk
  | 1=>
   show ((A :: B :: L) ++ [Z])[L.length+2]?=some Y;rw [List.getElem?_append_right (by simp)];simpa using hk
  | k+2=>
   have y:L[k]?=some Y:=hk;have z:=(List.getElem?_eq_some_iff.1 y).1;simp only [show ¬ (k+2=1) by omega,if_false];rw [List.getElem?_append_left (by simp;omega)];exact y
 simp only [List.length_cons] at hj hk;split<;>split<;>omega
theorem ML.aQr {l:List Asn} {i hb p:Nat} {m:Mk} (z:l[i]?=some (PH hb m.M)):ML (l ++ [MkA p hb (fun _=>0) []]) i l.length hb p m=l ++ [MkA p hb m.col m.list]:=by
 have y:i<l.length:=(List.getElem?_eq_some_iff.1 z).1;unfold ML;rw [List.set_append_left _ _ y,xW z,List.set_append_right _ _ (by omega),Nat.sub_self];rfl
theorem Fam.aUe {A B C D E:Asn} {L:List Asn} (h:Fam w0 w (B :: C :: D :: E :: A :: L)):Fam w0 w (A :: B :: C :: D :: E :: L):=by
 refine h.selC (fun k=>if k=0 then 4 else if k<5 then k - 1 else k) (fun k Y hk=>?_) (fun j k hj hk hne=>?_)
 ·match k with
  | 0=>exact hk
  | 1=>exact hk
  | 2=>exact hk
  | 3=>exact hk
  | 4=>exact hk
  | k+5=>
   simp only [show ¬ (k+5=0) by omega,show ¬ (k+5<5) by omega,if_false];exact hk
 split<;>(try split)<;>(try split)<;>(try split)<;>omega
theorem ML.aRV {L:List Asn} {A:Asn} {hb p:Nat} {y:Mk} (h:Fam w0 w (ML ((C5 b c x ++ l) ++ [A]) 0 (C5 b c x ++ l).length hb p y)):Fam w0 w l:=by
 refine h.selC (fun k=>5+k) (fun k Y hk=>?_) (fun j k _ _ hne e=>hne (by omega));have hl:=(List.getElem?_eq_some_iff.1 hk).1;have d:(C5 b c x ++ l).length=5+l.length:=by rw [List.length_append];rfl
 have z:(C5 b c x).length=5:=rfl;unfold ML;rw [List.getElem?_set_ne (by omega),List.getElem?_set_ne (by omega),List.getElem?_append_left (by omega),List.getElem?_append_right (by omega),show 5+k - (C5 b c x).length=k by omega];exact hk
theorem aPR (w:World) (v:Value):Calls prog 51 #[.pointer none,v] w (aO w (.int .i64 1)):=by
 refine aF fun R z=>?_;have y:=sZ w;go_in;go_wp2_with fail;go_fit y;rintro e _ ⟨rfl,rfl⟩;go_wp2;exact z.o _ _ ⟨rfl,rfl⟩
theorem aIq (w:World) (hf:Fam w0 w (C5 b c x ++ l)) (hx:x.ok c) (h:c.Okc) (a:Option Addr) (n cp:Nat) (z:List Int) (hl:z.length=n) (hn:n<=1000000) (hw:∀ y∈z,wfI y) (hr:∀ wx,Fam w0 wx l->mY wx (.slice a n cp) z) :
  Calls prog 51 #[.pointer (some ⟨b,0,none⟩),.slice a n cp] w (aPS w0 l b (c.begin z)):=by
 refine aF fun R hR=>?_;obtain ⟨_,_,x2,_,_,x5,_⟩:=dD.cells hf;have cn:=aJ w x2;unfold Co.begin at hR
 by_cases h2:192<z.length
 ·rw [if_pos h2] at hR;have h1:(192:Int)<n:=by omega
  clear h2 hw hr h hl;have HE:Hid (aPS w0 l b (1,c) (.returned (.int .i64 1)) w):=⟨rfl,x,hx,hf⟩;clear hf hx;go_in;go_wp2_with fail;go_fit cn;rintro e _ ⟨rfl,rfl⟩;go_wp2;exact hR.o _ _ HE.o
 rw [if_neg h2] at hR;have h1:¬ (192:Int)<n:=by omega
 by_cases hp:c.ph≠0
 ·rw [if_pos hp] at hR;have h6:((c.ph:Int) != 0)=true:=by simpa using hp
  have HE:Hid (aPS w0 l b (13,c) (.returned (.int .i64 13)) w):=⟨rfl,x,hx,hf⟩;clear h2 hw hr h hl hf hx hp;generalize c.ph=ph at*;go_in;go_wp2_with fail;go_fit cn;rintro e _ ⟨rfl,rfl⟩;go_wp2;exact hR.o _ _ HE.o
 rw [if_neg hp] at hR;rw [Classical.not_not.1 hp] at x5;have cb:=aAV w hf (i:=0) rfl a n cp z hl hn hw (hr w (Fam.rest hf)) (fun p w' m' h5=>hr w' (ML.aRV (L:=[]) h5));have HX:=aA hx;have h4:=aA hl;have HP:=aA (Classical.not_not.1 hp);clear hw hr h hl hf hx hp;go_in;go_wp2_with fail;go_fit cn;rintro e _ ⟨rfl,rfl⟩;go_wp2_with fail;go_fit cb;rintro e w1 (⟨d,rfl,h0⟩|⟨d,p2,rfl,h0⟩)
 ·rw [if_pos d] at hR;have HE:Hid (aPS w0 l b (3,c) (.returned (.int .i64 3)) w1):=⟨rfl,x,HX.o,h0⟩;clear cb h0 d;go_wp2;exact hR.o _ _ HE.o
 rw [if_neg d] at hR;have hM:((Mk.start c.m.M).aY z).M=c.m.M:=Mk.jP _ _;rw [ML.aQr (by rw [hM];rfl)] at h0;have h3:=h0.aPW;have F2:Hid (Fam w0 w1 ([PH x.hb ((Mk.start c.m.M).aY z).M,MkA p2 x.hb ((Mk.start c.m.M).aY z).col ((Mk.start c.m.M).aY z).list,TbA x.tb c.t c.t.ents.length,bT x.sv c.sw,eY b 142 (dD b c x)] ++ l)):=by
  rw [hM];exact h3
 have r2:=F2.o.row 4 rfl;have h7:=r2.cell 4 rfl;have h8:=r2.free 4;have h9:=r2.cell 5 rfl;have x1:=r2.free 5;have x3:=r2.cell 6 rfl;have x4:=r2.free 6;have F5:Hid (Fam w0 (((w1.setCell ⟨b,4,none⟩ (.pointer (some ⟨p2,0,none⟩))).setCell ⟨b,5,none⟩ (.int .i64 1)).setCell ⟨b,6,none⟩ (.int .i64 (-1 - (n:Int)))) (C5 b { c with m:=(Mk.start c.m.M).aY z,ph:=1,cr:=-1 - (n:Int),mv:=0 } { x with p:=p2 } ++ l)):=
  ((F2.o.bW 4 rfl 4 (.pointer (some ⟨p2,0,none⟩))).bW 4 rfl 5 (.int .i64 1)).bW 4 rfl 6 (.int .i64 (-1 - (n:Int)))
 clear cb h0 h3 d hM r2 F2;go_wp2;exact hR.o _ _ ⟨rfl,{ x with p:=p2 },⟨fun e=>(by cases e),fun e=>(by cases e),HX.o.mv2⟩,by rw [h4.o];exact F5.o⟩
theorem aNo (w:World) (n r:Int) (h:n<1\/24<n\/r<0\/100<r):Calls prog 35 #[.int .i64 n,.int .i64 r] w (fun e w'=>e=.returned (.tuple #[.pointer none,.int .i64 1])/\Only [] w w'):=by
 refine aF fun R hR=>?_
 by_cases d:n<1\/24<n
 ·have y:=aML w n d;clear h d;go_in;go_wp2_with fail;go_fit y;rintro e _ ⟨rfl,rfl⟩;go_wp2;exact hR.o _ _ ⟨rfl,Only.refl _ _⟩
 obtain ⟨k,rfl⟩:∃ k:Nat,n=(k:Int):=⟨n.toNat,by omega⟩;have y:=aDt w k (by omega) (by omega)
 by_cases h1:r<0
 ·clear h d;go_in;go_wp2_with fail;go_fit y;rintro e w1 ⟨hb,L,X,rfl,_,_,z⟩;have HO:=aA z;clear y z;go_wp2;exact hR.o _ _ ⟨rfl,HO.o⟩
 have h2:100<r:=by omega
 clear h d;go_in;go_wp2_with fail;go_fit y;rintro e w1 ⟨hb,L,X,rfl,_,_,z⟩;have HO:=aA z;clear y z;go_wp2;exact hR.o _ _ ⟨rfl,HO.o⟩
theorem aDW (w:World) (hf:Fam w0 w l) (n:Nat) (r:Int) (h1:1<=n) (h0:n<=24) (hr:0<=r/\r<=100):Calls prog 35 #[.int .i64 (n:Int),.int .i64 r] w (fun e w'=>∃ b,e=.returned (.tuple #[.pointer (some ⟨b,0,none⟩),.int .i64 0])/\Fam w0 w' (l ++ [CoA b (Co.new n r)])):=by
 refine aF fun R hR=>?_;have ch:=aDt w n h1 h0;have HF:=aA hf;have h4:Hid ((Hp.new n).OkF):=Hp.OkF.new h1 h0;have r1:¬ r<0:=by omega
 have r2:¬ 100<r:=by omega
 clear hf h1 h0 hr;go_in;go_wp2_with fail;go_fit ch;rintro e w1 ⟨hb,L,X,rfl,hp,hL,ho⟩;have F1:Hid (Fam w0 w1 (PH hb (Hp.new n) :: l)):=(HF.o.add (aOz hp h4.o hL ho)).front;have h3:Hid (¬ (Hp.new n).bZ []):=fun ⟨y,hy,_⟩=>by simp at hy
 have cb:=aAV w1 F1.o (i:=0) rfl none 0 0 [] rfl (by omega) (fun y hy=>by simp at hy) (.inr ⟨none,0,rfl,rfl⟩) (fun _ _ _ _=>.inr ⟨none,0,rfl,rfl⟩);clear ch hp hL ho HF;go_wp2_with fail;go_fit cb;rintro e d (⟨h5,_,_⟩|⟨_,p,rfl,h2⟩)
 ·exact absurd h5 h3.o
 have F2:Hid (Fam w0 d ((PH hb (Hp.new n) :: l) ++ [MkA p hb (fun _=>0) []])):=by
  rw [ML.aQr (by rfl)] at h2;exact h2
 have ct:=aLL d;clear cb h2 F1;go_wp2_with fail;go_fit ct;rintro e z ⟨rfl,rfl⟩;have F3:Hid (Fam w0 (d.alloc (.cells #[.bool true,.slice none 0 0,.slice none 0 0,.int .i64 0,.int .i64 0,.map none] 119)) ((PH hb (Hp.new n) :: l) ++ [MkA p hb (fun _=>0) []] ++ [TbA d.heap.size Tb.new 0])):=F2.o.add (aOj d);obtain ⟨t,ht⟩:∃ t,t=d.heap.size:=⟨_,rfl⟩;rw [<-ht] at F3 ⊢;generalize d.alloc (.cells #[.bool true,.slice none 0 0,.slice none 0 0,.int .i64 0,.int .i64 0,.map none] 119)=z at*;have F4:=F3.o.gY (v:=.slice none 0 0) (m:=[]) (Only.refl [] z) (aN.nil z z.heap.size);have F5:Hid (Fam w0 (z.alloc (.cells #[.int .i64 (n:Int),.int .i64 r,.pointer (some ⟨hb,0,none⟩),.pointer (some ⟨t,0,none⟩),.pointer (some ⟨p,0,none⟩),.int .i64 0,.int .i64 0,.bool false,.slice none 0 0,.int .i64 0] 142)) (C5 z.heap.size (Co.new n r) ⟨hb,p,t,.slice none 0 0,false,0⟩ ++ l)):=by
  have f5:=F4.addRow 142 [.int .i64 (n:Int),.int .i64 r,.pointer (some ⟨hb,0,none⟩),.pointer (some ⟨t,0,none⟩),.pointer (some ⟨p,0,none⟩),.int .i64 0,.int .i64 0,.bool false,.slice none 0 0,.int .i64 0];have f6:Fam w0 _ (PH hb (Hp.new n) :: (l ++ [MkA p hb (fun _=>0) []] ++ [TbA t Tb.new 0] ++ [bT (.slice none 0 0) []] ++ [eY z.heap.size 142 [.int .i64 (n:Int),.int .i64 r,.pointer (some ⟨hb,0,none⟩),.pointer (some ⟨t,0,none⟩),.pointer (some ⟨p,0,none⟩),.int .i64 0,.int .i64 0,.bool false,.slice none 0 0,.int .i64 0]])):=f5;exact f6.aOA.aUe
 clear ct F2 F3 F4 ht;go_wp2;exact hR.o _ _ ⟨z.heap.size,rfl,CoA.born ⟨fun e=>(by cases e),fun e=>(by cases e),Nat.zero_le _⟩ F5.o⟩
end
section
variable {w0 w:World} {l:List Asn} {b:Nat} {c c':Co} {x:CX} {i:Nat}
theorem CoA.wrap {f:FuncId} {y:Array Value} {r:Value} (hf:Fam w0 w l) (hi:l[i]?=some (CoA b c)) (hc:∀ x:CX,x.ok c->Fam w0 w (C5 b c x ++ l.set i NoA)->Calls prog f y w (fun e w'=>e=.returned r/\∃ z:CX,z.ok c'/\Fam w0 w' (C5 b c' z ++ l.set i NoA))) :
  Calls prog f y w (fun e w'=>e=.returned r/\Fam w0 w' (l.set i (CoA b c'))):=by
 obtain ⟨x,hx,h0⟩:=CoA.open hf hi;exact (hc x hx h0).mono fun e w' ⟨he,z,h1,d⟩=>⟨he,CoA.close h1 d (List.getElem?_eq_some_iff.1 hi).1⟩
theorem CoA.back (z:Fam w0 w (C5 b c x ++ l.set i NoA)) (hx:x.ok c) (y:l[i]?=some (CoA b c)):Fam w0 w l:=by
 have:=CoA.close hx z (List.getElem?_eq_some_iff.1 y).1;rwa [xW y] at this
theorem mP (w:World) (z:Fam w0 w l) (d:l[i]?=some (CoA b c)) (h:c.Okc):Calls prog 44 #[.pointer (some ⟨b,0,none⟩)] w (fun e w'=>e=.returned (.tuple #[.int .i64 c.finish.1,.int .i64 c.finish.2.1,.int .i64 c.finish.2.2.1])/\Fam w0 w' (l.set i (CoA b c.finish.2.2.2))):=
 CoA.wrap z d fun x hx y=>aFm w y hx h
theorem aIn (w:World) (z:Fam w0 w l) (d:l[i]?=some (CoA b c)) (h:c.Ok) (n:Int):Calls prog 43 #[.pointer (some ⟨b,0,none⟩),.int .i64 n] w (fun e w'=>e=.returned (.tuple #[.int .i64 (c.fZ n).1,.int .i64 (c.fZ n).2.1])/\Fam w0 w' (l.set i (CoA b (c.fZ n).2.2))):=
 CoA.wrap z d fun x hx y=>aIo w y hx h n
theorem kZ (w:World) (hf:Fam w0 w l) (hi:l[i]?=some (CoA b c)) (h:c.Ok) (k:Int) (d:Option Addr) (n vc:Nat) (y:List Bool) (hn:y.length=n) (hl:n<=1000000) (hv:∀ z,Fam w0 z (l.set i NoA)->aBt z (.slice d n vc) y) :
  Calls prog 45 #[.pointer (some ⟨b,0,none⟩),.int .i64 k,.slice d n vc] w (fun e w'=>e=.returned (.tuple #[.int .i64 (c.aH k y).1,.int .i64 (c.aH k y).2.1])/\Fam w0 w' (l.set i (CoA b (c.aH k y).2.2))):=
 CoA.wrap hf hi fun x hx h0=>aAH w h0 hx h k d n vc y hn hl (fun z _ _ h=>hv z (Fam.rest h))
theorem aCi (w:World) (z:Fam w0 w l) (d:l[i]?=some (CoA b c)) (h:c.Ok) (k a n:Int):Calls prog 46 #[.pointer (some ⟨b,0,none⟩),.int .i64 k,.int .i64 a,.int .i64 n] w (fun e w'=>e=.returned (.tuple #[.int .i64 (c.aG k a n).1,.int .i64 (c.aG k a n).2.1])/\Fam w0 w' (l.set i (CoA b (c.aG k a n).2.2))):=
 CoA.wrap z d fun x hx y=>aCj w y hx h k a n
theorem aHY (w:World) (d:Fam w0 w l) (hi:l[i]?=some (CoA b c)) (h:c.Okc) (y s v:Int) (hy:wfI y) (hv:wfI v):Calls prog 52 #[.pointer (some ⟨b,0,none⟩),.int .i64 y,.int .i64 s,.int .i64 v] w (fun e w'=>e=.returned (.int .i64 (c.store y s v).1)/\Fam w0 w' (l.set i (CoA b (c.store y s v).2))):=
 CoA.wrap d hi fun x hx z=>aHZ w z hx h y s v hy hv
theorem aIa (w:World) (d:Fam w0 w l) (hi:l[i]?=some (CoA b c)) (h:c.Okc) (k y g:Int) (hy:wfI y):Calls prog 48 #[.pointer (some ⟨b,0,none⟩),.int .i64 k,.int .i64 y,.int .i64 g] w (fun e w'=>e=.returned (.tuple #[.int .i64 (c.refer k y g).1,.int .i64 (c.refer k y g).2.1])/\Fam w0 w' (l.set i (CoA b (c.refer k y g).2.2))):=
 CoA.wrap d hi fun x hx z=>aIb w z hx h k y g hy
theorem aFj (w:World) (d:Fam w0 w l) (hi:l[i]?=some (CoA b c)) (h:c.Okc) (y:Int):Calls prog 49 #[.pointer (some ⟨b,0,none⟩),.int .i64 y] w (fun e w'=>e=.returned (.tuple #[.int .i64 (c.target y).1,.int .i64 (c.target y).2.1])/\Fam w0 w' (l.set i (CoA b (c.target y).2.2))):=
 CoA.wrap d hi fun x hx z=>aFk w z hx h y
theorem aKP (w:World) (z:Fam w0 w l) (d:l[i]?=some (CoA b c)) (h:c.Okc):Calls prog 50 #[.pointer (some ⟨b,0,none⟩)] w (fun e w'=>e=.returned (.tuple #[.int .i64 c.take.1,.int .i64 c.take.2.1])/\Fam w0 w' (l.set i (CoA b c.take.2.2))):=
 CoA.wrap z d fun x hx y=>aKQ w y hx h
theorem vI (w:World) (hf:Fam w0 w l) (hi:l[i]?=some (CoA b c)) (h:c.Okc) (a:Option Addr) (n d:Nat) (z:List Int) (hl:z.length=n) (hn:n<=1000000) (hw:∀ y∈z,wfI y) (hr:∀ wx,Fam w0 wx (l.set i NoA)->mY wx (.slice a n d) z) :
  Calls prog 51 #[.pointer (some ⟨b,0,none⟩),.slice a n d] w (fun e w'=>e=.returned (.int .i64 (c.begin z).1)/\Fam w0 w' (l.set i (CoA b (c.begin z).2))):=
 CoA.wrap hf hi fun x hx h0=>aIq w h0 hx h a n d z hl hn hw hr
theorem aNq (w:World) (d:Fam w0 w l) (e:l[i]?=some (CoA b c)) (h:c.Okc) (y s:Int) (hy:wfI y):Calls prog 47 #[.pointer (some ⟨b,0,none⟩),.int .i64 y,.int .i64 s] w (Same w (.tuple #[.int .i64 (c.get y s).1,.int .i64 (c.get y s).2])):=by
 obtain ⟨x,hx,z⟩:=CoA.open d e;exact aNr w z h y s hy
theorem qK (w:World) (z:Fam w0 w l) (d:l[i]?=some (CoA b c)):Calls prog 53 #[.pointer (some ⟨b,0,none⟩)] w (aO w (.int .i64 (c.ph:Int))):=by
 obtain ⟨x,hx,y⟩:=CoA.open z d;exact aIc w y
theorem aDX (w:World) (z:Fam w0 w l) (d:l[i]?=some (CoA b c)):Calls prog 54 #[.pointer (some ⟨b,0,none⟩)] w (aO w (.int .i64 c.cr)):=by
 obtain ⟨x,hx,y⟩:=CoA.open z d;exact aFo w y
theorem aAj (w:World) (hf:Fam w0 w l) (y:l[i]?=some (CoA b c)):Calls prog 55 #[.pointer (some ⟨b,0,none⟩)] w (fun e w'=>∃ q,e=.returned (.pointer (some ⟨q,0,none⟩))/\Only [] w w'/\Fam w0 w' (l ++ [PH q c.m.M])):=by
 obtain ⟨x,hx,d⟩:=CoA.open hf y;have h0:=(List.getElem?_eq_some_iff.1 y).1;refine (aKY w d).mono fun e w' ⟨q,he,ho,z⟩=>⟨q,he,ho,?_⟩;have h2:Fam w0 w' (C5 b c x ++ (l ++ [PH q c.m.M]).set i NoA):=by
  rw [List.set_append_left _ _ h0];exact z
 exact CoA.back h2 hx (rZ y)
end
def aPI:Hp:=(((Hp.new 2).aH 0 []).2.2.aH 0 []).2.2
def aEf:Co:=⟨(Mk.start aPI).aY [1],Tb.new,1,-2,0,2,[],0⟩
theorem aCu:((Hp.new 2).aH 0 []).1=1/\((Hp.new 2).aH 0 []).2.1=0/\(((Hp.new 2).aH 0 []).2.2.aH 0 []).1=2/\(((Hp.new 2).aH 0 []).2.2.aH 0 []).2.1=0:=by decide+kernel
theorem aQb:(aPI.ob 1).isSome=true:=by decide+kernel
theorem rE:(Co.steps 6 aEf).ph=0/\(∀ j,j<6->(Co.steps j aEf).ph≠0)/\(Co.steps 6 aEf).m.M.handles=[1]:=by decide+kernel
def aRl (w0:World) (l:List Asn) (b:Nat) (r:Int×Co) (e:Ending) (w':World):Prop:=e=.returned (.int .i64 r.1)/\∃ y:GX5,y.ok r.2/\Fam w0 w' (G5 b r.2 y ++ l)
section
variable {w0 w w':World} {l:List Asn} {b:Nat} {c:Co} {x:GX5} {i:Nat} {m:Mk} {t:Tb}
theorem aLB {M:Hp} {y s:Int} (h:(M.ob y).isSome=false):M.get y s=(0,3):=by
 unfold Hp.get
 cases e:M.ob y with
 | none=>rfl
 | some o=>rw [e] at h;cases h
theorem aMc {M:Hp} {y s v:Int} (h:(M.ob y).isSome=false):M.set y s v=(3,M):=by
 unfold Hp.set
 cases e:M.ob y with
 | none=>rfl
 | some o=>rw [e] at h;cases h
theorem aHw {M:Hp} {y s:Int} (h:(M.ob y).isSome=false):M.isRef y s=(false,3):=by
 unfold Hp.isRef
 cases e:M.ob y with
 | none=>rfl
 | some o=>rw [e] at h;cases h
theorem aHj {m:Mk} {y s v:Int} (h:(m.M.set y s v).1≠0):m.store y s v=((m.M.set y s v).1,m):=by
 unfold Mk.store;simp only;rw [if_neg (fun e=>h e.1)];rcases aJh m.M y s v with ⟨_,d⟩|⟨o,j,_,_,_,_,z,_⟩
 ·rw [d];rfl
 exact absurd z h
theorem aCD {y s v e:Int} (d:c.hid y=false) (hr:(c.m.M.isRef y s).1=false) (h:c.m.M.set y s v=(e,c.m.M)) (z:e≠0):c.store y s v=(e,c):=by
 unfold Co.store;rw [if_neg (fun x=>by rcases x with x|x;rw [d] at x;cases x;rw [hr] at x;cases x.1)]
 split
 ·rw [aHj (by rw [h];exact z),h]
 rw [h];rfl
theorem aBE {M:Hp} {y s v:Int} (h:(M.isRef y s).2≠0):(M.isRef y s).1=false/\M.set y s v=((M.isRef y s).2,M):=by
 unfold Hp.isRef at h ⊢;unfold Hp.set
 cases e:M.ob y with
 | none=>exact ⟨rfl,rfl⟩
 | some o=>
  rw [e] at h;simp only at h ⊢
  by_cases z:s<0\/(o.slots.length:Int)<=s
  ·rw [if_pos z,if_pos z];exact ⟨rfl,rfl⟩
  rw [if_neg z] at h;exact absurd rfl h
theorem aKw (w:World) (hf:Fam w0 w (G5 b c x ++ l)) (hx:x.ok c) (h:c.Okc) (y s:Int):Calls prog 99 #[.pointer (some ⟨b,0,none⟩),.int .i64 y,.int .i64 s] w (fun e w'=>e=.returned (.tuple #[.int .i64 (c.get y s).1,.int .i64 (c.get y s).2])/\Only [] w w'):=by
 refine aF fun R hR=>?_;have ch:=sQ w hf hx h y;have HF:=aA hf;unfold Co.get at hR
 cases z:c.gone y with
 | true=>
  have hv:(if c.hid y=true then ((0:Int),(3:Int)) else c.m.M.get y s)=(0,3):=by
   unfold Co.gone at z
   cases e:c.hid y with
   | true=>rfl
   | false=>
    rw [e,Bool.or_false] at z;exact aLB (by simpa using z)
  rw [hv] at hR;rw [z] at ch;clear hf hx h z hv;go_in;go_wp2_with fail;go_fit ch;rintro e w1 ⟨rfl,d⟩;have HO:=aA d;clear ch d;go_wp2;exact hR.o _ _ ⟨rfl,HO.o⟩
 | false=>
  have hv:(if c.hid y=true then ((0:Int),(3:Int)) else c.m.M.get y s)=c.m.M.get y s:=by
   unfold Co.gone at z
   cases e:c.hid y with
   | true=>rw [e,Bool.or_true] at z;cases z
   | false=>rfl
  rw [hv] at hR;rw [z] at ch;have HC:Hid (∀ wx,Only [] w wx->wx.cell? ⟨b,0,none⟩=some (.pointer (some ⟨x.q,0,none⟩))/\Calls prog 182 #[.pointer (some ⟨x.q,0,none⟩),.int .i64 y,.int .i64 s] wx (aO wx (.tuple #[.int .i64 (c.m.M.get y s).1,.int .i64 (c.m.M.get y s).2]))):=fun wx d=>by
   have f2:=HF.o.aK d;obtain ⟨hk,L,X,hp⟩:=G5.gh f2;exact ⟨(bC.cells f2).1,aGe wx hp hk y s⟩
  clear hf hx h z hv HF;generalize (c.m.M.get y s).1=g1 at*;generalize (c.m.M.get y s).2=g2 at*;go_in;go_wp2_with fail;go_fit ch;rintro e w1 ⟨rfl,d⟩;obtain ⟨z0,cg⟩:=HC.o w1 d;have HO:=aA d;clear ch d HC;go_wp2_with fail;go_fit cg;rintro e _ ⟨rfl,rfl⟩;clear cg;go_wp2;exact hR.o _ _ ⟨rfl,HO.o⟩
theorem G5.stores (hf:Fam w0 w (G5 b c x ++ l)) (hx:x.ok c) (h:c.Okc) (y s v:Int):w.cell? ⟨b,3,none⟩=some (.int .i64 (c.ph:Int))/\(c.bar=true->w.cell? ⟨b,2,none⟩=some (.pointer (some ⟨x.r,0,none⟩))/\Calls prog 148 #[.pointer (some ⟨x.r,0,none⟩),.int .i64 y,.int .i64 s,.int .i64 v] w (fun e w'=>e=.returned (.int .i64 (c.m.store y s v).1)/\Fam w0 w' (G5 b (c.pU (c.m.store y s v).2) x ++ l)))/\w.cell? ⟨b,0,none⟩=some (.pointer (some ⟨x.q,0,none⟩))/\Calls prog 144 #[.pointer (some ⟨x.q,0,none⟩),.int .i64 y,.int .i64 s,.int .i64 v] w (fun e w'=>e=.returned (.int .i64 (c.m.M.set y s v).1)/\Fam w0 w' (G5 b (c.pU (c.m.put (c.m.M.set y s v).2)) x ++ l)):=by
 have d:=bC.cells hf;refine ⟨d.2.2.2.1,fun hb=>?_,d.1,aDJ w hf y s v⟩;have z:x.on=true:=hx.on.trans hb;refine ⟨G5.m2 z hf,?_⟩;have:=aFb w (G5.t2 (b:=b) (c:=c) (x:=x) (l:=l)) (G5.toR z hf) (h.mo (dM.1 hb)) y s v;rw [G5.rl z] at this;exact this
theorem jI (h:c.Okc):(c.ph=1/\c.bar=true)\/(c.ph=2/\c.bar=true)\/(((c.ph:Int) == 1)=false/\((c.ph:Int) == 2)=false/\c.bar=false):=by
 by_cases y:c.ph=1
 ·exact .inl ⟨y,dM.2 (.inl y)⟩
 by_cases z:c.ph=2
 ·exact .inr (.inl ⟨z,dM.2 (.inr z)⟩)
 exact .inr (.inr ⟨by rw [beq_eq_false_iff_ne];omega,by rw [beq_eq_false_iff_ne];omega,aBo y z⟩)
theorem aHH (w:World) (hf:Fam w0 w (G5 b c x ++ l)) (hx:x.ok c) (h:c.Okc) (y s v:Int):Calls prog 94 #[.pointer (some ⟨b,0,none⟩),.int .i64 y,.int .i64 s,.int .i64 v] w (aRl w0 l b (c.store y s v)):=by
 refine aF fun R hR=>?_;have ch:=sQ w hf hx h y;have F0:=aA hf;have HX:=aA hx;have HH:=aA h
 cases d:c.gone y with
 | true=>
  have hv:c.store y s v=(3,c):=by
   cases e:c.hid y with
   | true=>unfold Co.store;rw [if_pos (.inl e)]
   | false=>
    unfold Co.gone at d;rw [e,Bool.or_false] at d;have hn:(c.m.M.ob y).isSome=false:=by simpa using d
    exact aCD e (by rw [aHw hn]) (aMc hn) (by decide)
  rw [hv] at hR;rw [d] at ch;clear hf hx h d hv;go_in;go_wp2_with fail;go_fit ch;rintro e w1 ⟨rfl,ho⟩;have F1:=aA (F0.o.aK ho);clear ch ho F0;go_wp2;exact hR.o _ _ ⟨rfl,x,HX.o,F1.o⟩
 | false=>
  have h4:c.hid y=false/\(c.m.M.ob y).isSome=true:=by
   unfold Co.gone at d
   cases e:c.hid y with
   | true=>rw [e,Bool.or_true] at d;cases d
   | false=>rw [e,Bool.or_false] at d;exact ⟨rfl,by simpa using d⟩
  rw [d] at ch;have HI:Hid (∀ wx,Fam w0 wx (G5 b c x ++ l)->wx.cell? ⟨b,0,none⟩=some (.pointer (some ⟨x.q,0,none⟩))/\Calls prog 176 #[.pointer (some ⟨x.q,0,none⟩),.int .i64 y,.int .i64 s] wx (aO wx (.tuple #[.bool (c.m.M.isRef y s).1,.int .i64 (c.m.M.isRef y s).2]))):=fun wx hwx=>by
   obtain ⟨hk,L,X,hp⟩:=G5.gh hwx;exact ⟨(bC.cells hwx).1,uY wx hp hk y s⟩
  by_cases he:(c.m.M.isRef y s).2=0
  ·rw [he] at HI
   cases h1:(c.m.M.isRef y s).1 with
   | true=>
    rw [h1] at HI;have HL:Hid (∀ wx,Fam w0 wx (G5 b c x ++ l)->Calls prog 58 #[.pointer (some ⟨x.q,0,none⟩),.int .i64 v] wx (fun e w'=>e=.returned (.bool (c.m.M.ob v).isSome)/\Only [] wx w')):=fun wx hwx=>by
     obtain ⟨hk,L,X,hp⟩:=G5.gh hwx;exact jT wx hp hk v
    have HG:Hid (∀ wx,Fam w0 wx (G5 b c x ++ l)->Calls prog 175 #[.pointer (some ⟨b,0,none⟩),.int .i64 v] wx (fun e w'=>e=.returned (.bool (c.gone v))/\Only [] wx w')):=fun wx hwx=>sQ wx hwx HX.o HH.o v
    cases h5:(c.m.M.ob v).isSome with
    | true=>
     rw [h5] at HL
     cases h3:c.gone v with
     | true=>
      have h0:c.store y s v=(3,c):=by
       unfold Co.store;rw [if_pos (.inr ⟨h1,by unfold Co.gone at h3;rw [h5] at h3;simpa using h3⟩)]
      rw [h0] at hR;rw [h3] at HG;clear hf hx h d h0 h4 he h1 h5 h3;go_in;go_wp2_with fail;go_fit ch;rintro e w1 ⟨rfl,ho⟩;have F1:=aA (F0.o.aK ho);obtain ⟨z0,ci⟩:=HI.o w1 F1.o;have cl:=HL.o w1 F1.o;clear ch ho F0;go_wp2_with fail;go_fit ci;rintro e _ ⟨rfl,rfl⟩;clear ci;go_wp2_with fail;go_fit cl;rintro e w2 ⟨rfl,h6⟩;have F2:=aA (F1.o.aK h6);have cg:=HG.o w2 F2.o;clear cl h6 F1 z0;go_wp2_with fail;go_fit cg;rintro e w3 ⟨rfl,h9⟩;have F3:=aA (F2.o.aK h9);clear cg h9 F2;go_wp2;exact hR.o _ _ ⟨rfl,x,HX.o,F3.o⟩
     | false=>
      have h8:c.hid v=false:=by
       unfold Co.gone at h3
       cases e:c.hid v with
       | true=>rw [e,Bool.or_true] at h3;cases h3
       | false=>rfl
      have h0:c.store y s v=if c.bar=true then ((c.m.store y s v).1,({ c with m:=(c.m.store y s v).2 }:Co)) else ((c.m.M.set y s v).1,({ c with m:=c.m.put (c.m.M.set y s v).2 }:Co)):=by
       unfold Co.store;rw [if_neg (fun e=>by rcases e with e|e;rw [h4.1] at e;cases e;rw [h8] at e;cases e.2)]
      rw [h0] at hR;rw [h3] at HG;have x1:=jI h;clear hf hx h d h0 h4 he h1 h5 h3 h8;go_in;go_wp2_with fail;go_fit ch;rintro e w1 ⟨rfl,ho⟩;have F1:=aA (F0.o.aK ho);obtain ⟨z0,ci⟩:=HI.o w1 F1.o;have cl:=HL.o w1 F1.o;clear ch ho F0;go_wp2_with fail;go_fit ci;rintro e _ ⟨rfl,rfl⟩;clear ci;go_wp2_with fail;go_fit cl;rintro e w2 ⟨rfl,h6⟩;have F2:=aA (F1.o.aK h6);have cg:=HG.o w2 F2.o;clear cl h6 F1 z0;go_wp2_with fail;go_fit cg;rintro e w3 ⟨rfl,h9⟩;have F3:=aA (F2.o.aK h9);obtain ⟨z3,zb,z0,cs⟩:=G5.stores F3.o HX.o HH.o y s v;clear cg h9 F2 HI HL HG HH;rcases x1 with ⟨hp,hb⟩|⟨hp,hb⟩|⟨x3,x4,hb⟩
      ·obtain ⟨z2,cm⟩:=zb hb;rw [hp] at z3;rw [hb] at hR;clear zb cs z0 hp hb;go_wp2_with fail;go_fit cm;rintro e w4 ⟨rfl,z⟩;have F4:=aA z;clear cm z;go_wp2;exact hR.o _ _ ⟨rfl,x,⟨HX.o.on,HX.o.mv,HX.o.m0,HX.o.mv2⟩,F4.o⟩
      ·obtain ⟨z2,cm⟩:=zb hb;rw [hp] at z3;rw [hb] at hR;clear zb cs z0 hp hb;go_wp2_with fail;go_fit cm;rintro e w4 ⟨rfl,z⟩;have F4:=aA z;clear cm z;go_wp2;exact hR.o _ _ ⟨rfl,x,⟨HX.o.on,HX.o.mv,HX.o.m0,HX.o.mv2⟩,F4.o⟩
      have h7:Hid (∀ w',Fam w0 w' (G5 b (c.pU (c.m.put (c.m.M.set y s v).2)) x ++ l)->R (.returned (.int .i64 (c.m.M.set y s v).1)) w'):=fun w' h2=>hR.o _ _ (by
       rw [if_neg (by rw [hb];decide)];exact ⟨rfl,x,⟨HX.o.on,HX.o.mv,HX.o.m0,HX.o.mv2⟩,h2⟩)
      clear hR HX zb hb;generalize (c.m.M.set y s v).1=s1 at*;generalize c.pU (c.m.put (c.m.M.set y s v).2)=c2 at*;generalize c.ph=ph at*;go_wp2_with fail;go_fit cs;rintro e w4 ⟨rfl,z⟩;have F4:=aA z;clear cs z;go_wp2_with fail;exact h7.o _ F4.o
    | false=>
     have h8:c.hid v=false:=by
      unfold Co.hid;split
      ·unfold Mk.isW;rw [h5];rfl
      refine decide_eq_false fun e=>?_;have:=h.su v e;rw [h5] at this;cases this
     have h0:c.store y s v=if c.bar=true then ((c.m.store y s v).1,({ c with m:=(c.m.store y s v).2 }:Co)) else ((c.m.M.set y s v).1,({ c with m:=c.m.put (c.m.M.set y s v).2 }:Co)):=by
      unfold Co.store;rw [if_neg (fun e=>by rcases e with e|e;rw [h4.1] at e;cases e;rw [h8] at e;cases e.2)]
     rw [h0] at hR;rw [h5] at HL;have x1:=jI h;clear hf hx h d h0 h4 he h1 h5 h8;go_in;go_wp2_with fail;go_fit ch;rintro e w1 ⟨rfl,ho⟩;have F1:=aA (F0.o.aK ho);obtain ⟨z0,ci⟩:=HI.o w1 F1.o;have cl:=HL.o w1 F1.o;clear ch ho F0;go_wp2_with fail;go_fit ci;rintro e _ ⟨rfl,rfl⟩;clear ci;go_wp2_with fail;go_fit cl;rintro e w3 ⟨rfl,h6⟩;have F3:=aA (F1.o.aK h6);clear z0;obtain ⟨z3,zb,z0,cs⟩:=G5.stores F3.o HX.o HH.o y s v;clear cl h6 F1 HI HL HG HH;rcases x1 with ⟨hp,hb⟩|⟨hp,hb⟩|⟨x3,x4,hb⟩
     ·obtain ⟨z2,cm⟩:=zb hb;rw [hp] at z3;rw [hb] at hR;clear zb cs z0 hp hb;go_wp2_with fail;go_fit cm;rintro e w4 ⟨rfl,z⟩;have F4:=aA z;clear cm z;go_wp2;exact hR.o _ _ ⟨rfl,x,⟨HX.o.on,HX.o.mv,HX.o.m0,HX.o.mv2⟩,F4.o⟩
     ·obtain ⟨z2,cm⟩:=zb hb;rw [hp] at z3;rw [hb] at hR;clear zb cs z0 hp hb;go_wp2_with fail;go_fit cm;rintro e w4 ⟨rfl,z⟩;have F4:=aA z;clear cm z;go_wp2;exact hR.o _ _ ⟨rfl,x,⟨HX.o.on,HX.o.mv,HX.o.m0,HX.o.mv2⟩,F4.o⟩
     have h7:Hid (∀ w',Fam w0 w' (G5 b (c.pU (c.m.put (c.m.M.set y s v).2)) x ++ l)->R (.returned (.int .i64 (c.m.M.set y s v).1)) w'):=fun w' h2=>hR.o _ _ (by
      rw [if_neg (by rw [hb];decide)];exact ⟨rfl,x,⟨HX.o.on,HX.o.mv,HX.o.m0,HX.o.mv2⟩,h2⟩)
     clear hR HX zb hb;generalize (c.m.M.set y s v).1=s1 at*;generalize c.pU (c.m.put (c.m.M.set y s v).2)=c2 at*;generalize c.ph=ph at*;go_wp2_with fail;go_fit cs;rintro e w4 ⟨rfl,z⟩;have F4:=aA z;clear cs z;go_wp2_with fail;exact h7.o _ F4.o
   | false=>
    rw [h1] at HI;have h0:c.store y s v=if c.bar=true then ((c.m.store y s v).1,({ c with m:=(c.m.store y s v).2 }:Co)) else ((c.m.M.set y s v).1,({ c with m:=c.m.put (c.m.M.set y s v).2 }:Co)):=by
     unfold Co.store;rw [if_neg (fun e=>by rcases e with e|e;rw [h4.1] at e;cases e;rw [h1] at e;cases e.1)]
    rw [h0] at hR;have x1:=jI h;clear hf hx h d h0 h4 he h1;go_in;go_wp2_with fail;go_fit ch;rintro e w1 ⟨rfl,ho⟩;have F3:=aA (F0.o.aK ho);obtain ⟨z0,ci⟩:=HI.o w1 F3.o;clear ch ho F0;go_wp2_with fail;go_fit ci;rintro e _ ⟨rfl,rfl⟩;clear ci z0;obtain ⟨z3,zb,z0,cs⟩:=G5.stores F3.o HX.o HH.o y s v;clear HI HH;rcases x1 with ⟨hp,hb⟩|⟨hp,hb⟩|⟨x3,x4,hb⟩
    ·obtain ⟨z2,cm⟩:=zb hb;rw [hp] at z3;rw [hb] at hR;clear zb cs z0 hp hb;go_wp2_with fail;go_fit cm;rintro e w4 ⟨rfl,z⟩;have F4:=aA z;clear cm z;go_wp2;exact hR.o _ _ ⟨rfl,x,⟨HX.o.on,HX.o.mv,HX.o.m0,HX.o.mv2⟩,F4.o⟩
    ·obtain ⟨z2,cm⟩:=zb hb;rw [hp] at z3;rw [hb] at hR;clear zb cs z0 hp hb;go_wp2_with fail;go_fit cm;rintro e w4 ⟨rfl,z⟩;have F4:=aA z;clear cm z;go_wp2;exact hR.o _ _ ⟨rfl,x,⟨HX.o.on,HX.o.mv,HX.o.m0,HX.o.mv2⟩,F4.o⟩
    have h7:Hid (∀ w',Fam w0 w' (G5 b (c.pU (c.m.put (c.m.M.set y s v).2)) x ++ l)->R (.returned (.int .i64 (c.m.M.set y s v).1)) w'):=fun w' h2=>hR.o _ _ (by
     rw [if_neg (by rw [hb];decide)];exact ⟨rfl,x,⟨HX.o.on,HX.o.mv,HX.o.m0,HX.o.mv2⟩,h2⟩)
    clear hR HX zb hb;generalize (c.m.M.set y s v).1=s1 at*;generalize c.pU (c.m.put (c.m.M.set y s v).2)=c2 at*;generalize c.ph=ph at*;go_wp2_with fail;go_fit cs;rintro e w4 ⟨rfl,z⟩;have F4:=aA z;clear cs z;go_wp2_with fail;exact h7.o _ F4.o
  obtain ⟨h1,x2⟩:=aBE (v:=v) he;have h0:=aCD h4.1 h1 x2 he;rw [h0] at hR;have x5:((c.m.M.isRef y s).2 != 0)=true:=by simpa using he
  clear hf hx h d h0 h4 he h1 x2;generalize (c.m.M.isRef y s).1=i1 at*;generalize (c.m.M.isRef y s).2=i2 at*;go_in;go_wp2_with fail;go_fit ch;rintro e w1 ⟨rfl,ho⟩;have F1:=aA (F0.o.aK ho);obtain ⟨z0,ci⟩:=HI.o w1 F1.o;clear ch ho F0 HI;go_wp2_with fail;go_fit ci;rintro e _ ⟨rfl,rfl⟩;clear ci z0;go_wp2;exact hR.o _ _ ⟨rfl,x,HX.o,F1.o⟩
end
section
variable {w0 w w':World} {l:List Asn} {b:Nat} {c:Co} {x:GX5} {i:Nat} {m:Mk} {t:Tb}
theorem aHO (w:World) (d:Fam w0 w (G5 b c x ++ l)) (k:Int) (v:Value) (y:List Bool) (hv:aBt w v y) (hl:y.length<=1000000):Calls prog 143 #[.pointer (some ⟨x.q,0,none⟩),.int .i64 k,v] w (fun e w'=>e=.returned (.tuple #[.int .i64 (c.m.M.aH k y).1,.int .i64 (c.m.M.aH k y).2.1])/\Fam w0 w' (G5 b (c.pU (c.m.put (c.m.M.aH k y).2.2)) x ++ l)):=
 d.aDA 0 rfl (M':=(c.m.M.aH k y).2.2) (fun z=>z.aH k y) (fun L X hr z=>pY w hr z k v y hv hl)
theorem pG (w:World) (z:Fam w0 w (G5 b c x ++ l)) (k a n:Int):Calls prog 174 #[.pointer (some ⟨x.q,0,none⟩),.int .i64 k,.int .i64 a,.int .i64 n] w (fun e w'=>e=.returned (.tuple #[.int .i64 (c.m.M.aG k a n).1,.int .i64 (c.m.M.aG k a n).2.1])/\Fam w0 w' (G5 b (c.pU (c.m.put (c.m.M.aG k a n).2.2)) x ++ l)):=
 z.aDA 0 rfl (M':=(c.m.M.aG k a n).2.2) (fun y=>y.aG k a n) (fun L X hr y=>sO w hr y k a n)
theorem zM (w:World) (hf:Fam w0 w (G5 b c x ++ l)) (hx:x.ok c) (h:c.Ok) (k:Int) (va:Option Addr) (n vc:Nat) (z:List Bool) (hn:z.length=n) (hl:n<=1000000) (hv:∀ wx (c':Co) (x':GX5),Fam w0 wx (G5 b c' x' ++ l)->aBt wx (.slice va n vc) z) :
  Calls prog 92 #[.pointer (some ⟨b,0,none⟩),.int .i64 k,.slice va n vc] w (qU w0 l b (c.aH k z)):=by
 refine aF fun R hR=>?_;obtain ⟨_,_,_,_,_,x5,_⟩:=bC.cells hf;unfold Co.aH at hR
 by_cases y:k<0\/10<=k\/7<z.length
 ·rw [if_pos y] at hR;rw [hn] at y;have HE:Hid (qU w0 l b (0,1,c) (.returned (.tuple #[.int .i64 0,.int .i64 1])) w):=⟨rfl,x,hx,hf⟩;clear hf hx h hv hn hl
  by_cases b1:k<0
  ·clear y;go_in;go_wp2;exact hR.o _ _ HE.o
  by_cases b2:10<=k
  ·clear y;go_in;go_wp2;exact hR.o _ _ HE.o
  have b3:(7:Int)<n:=by omega
  clear y;go_in;go_wp2;exact hR.o _ _ HE.o
 rw [if_neg y] at hR;rw [hn] at y;have b1:¬ k<0:=by omega
 have b2:¬ 10<=k:=by omega
 have b3:¬ (7:Int)<n:=by omega
 have cg:=zS w hf hx h c.rate ⟨h.k.rt.1,by have:=h.k.rt.2;omega⟩;have h5:=aA (h.give h.k.rt.1);have HV:=aA hv;have HL:=aA hl;have HN:=aA hn;clear hf hx h y hv hl hn;obtain ⟨d,hd⟩:∃ d,d=(c.give c.rate).2:=⟨_,rfl⟩;rw [<-hd] at cg h5 hR;generalize (c.give c.rate).1=gn at*;clear hd;go_in;go_wp2_with fail;go_fit cg;rintro e w1 ⟨rfl,h0,h8,h3⟩;have z3:=(bC.cells h3).2.2.2.1;have h6:=HV.o w1 d h0 h3;have h1:=aA h8;unfold Co.newObj at hR;clear cg;rcases jI h5.o.k with ⟨hp,hb⟩|⟨hp,hb⟩|⟨x1,x2,hb⟩;rotate_left 2
 ·have cm:=aHO w1 h3 k (.slice va n vc) z h6 (by rw [HN.o];exact HL.o);replace cm:Calls _ _ _ w1 (fun e w'=>e=.returned (.tuple #[.int .i64 (d.m.M.aH k z).1,.int .i64 (d.m.M.aH k z).2.1])/\Fam w0 w' (G5 b { d with m:=d.m.put (d.m.M.aH k z).2.2 } h0 ++ l)):=cm;have z0:=(bC.cells h3).1;have HR:Hid (∀ w',Fam w0 w' (G5 b { d with m:=d.m.put (d.m.M.aH k z).2.2 } h0 ++ l)->R (.returned (.tuple #[.int .i64 (d.m.M.aH k z).1,.int .i64 (d.m.M.aH k z).2.1])) w'):=fun w' h2=>hR.o _ _ (by
   rw [if_neg (by rw [hb];decide)];exact ⟨rfl,h0,⟨h1.o.on,h1.o.mv,h1.o.m0,h1.o.mv2⟩,h2⟩)
  clear hR h3 h8 h6 hb h5;generalize d.m.M.aH k z=r at*;obtain ⟨r1,r2,r3⟩:=r;generalize h9:d.ph=ph at*;clear h9;go_wp2_with fail;go_fit cm;rintro e w2 ⟨rfl,h4⟩;have HE:=aA h4;clear cm h4;go_wp2_with fail;exact HR.o _ HE.o
 all_goals
  have h7:h0.on=true:=h8.on.trans hb;have cm:=zQ w1 (G5.t2 (b:=b) (c:=d) (x:=h0) (l:=l)) (G5.toR h7 h3) (h5.o.k.mo (by first|exact .inl hp|exact .inr hp)) k (.slice va n vc) z h6 (by rw [HN.o];exact HL.o);rw [G5.rl h7] at cm;replace cm:Calls _ _ _ w1 (fun e w'=>e=.returned (.tuple #[.int .i64 (d.m.aH k z).1,.int .i64 (d.m.aH k z).2.1])/\Fam w0 w' (G5 b { d with m:=(d.m.aH k z).2.2 } h0 ++ l)):=cm;have z2:=G5.m2 h7 h3;have HR:Hid (∀ w',Fam w0 w' (G5 b { d with m:=(d.m.aH k z).2.2 } h0 ++ l)->R (.returned (.tuple #[.int .i64 (d.m.aH k z).1,.int .i64 (d.m.aH k z).2.1])) w'):=fun w' h2=>hR.o _ _ (by
   rw [if_pos hb];exact ⟨rfl,h0,⟨h1.o.on,h1.o.mv,h1.o.m0,h1.o.mv2⟩,h2⟩)
  rw [hp] at z3;clear hR h3 h8 h6 h7 hp hb;generalize d.m.aH k z=r at*;obtain ⟨r1,r2,r3⟩:=r;go_wp2_with fail;go_fit cm;rintro e w2 ⟨rfl,h4⟩;have HE:=aA h4;clear cm h4;go_wp2_with fail;exact HR.o _ HE.o
theorem aAC (w:World) (hf:Fam w0 w (G5 b c x ++ l)) (hx:x.ok c) (k a n:Int) (y:n<0\/48<n\/¬ ((k=3/\a=0)\/(k=4/\0<=a/\a<10))):Calls prog 93 #[.pointer (some ⟨b,0,none⟩),.int .i64 k,.int .i64 a,.int .i64 n] w (qU w0 l b (0,1,c)):=by
 refine aF fun R d=>?_;have z:Hid (qU w0 l b (0,1,c) (.returned (.tuple #[.int .i64 0,.int .i64 1])) w):=⟨rfl,x,hx,hf⟩;clear hf hx
 by_cases b1:n<0
 ·clear y;go_in;go_wp2;exact d.o _ _ z.o
 by_cases b2:48<n
 ·clear y;go_in;go_wp2;exact d.o _ _ z.o
 by_cases b3:a<0
 ·clear y;go_in;go_wp2;exact d.o _ _ z.o
 by_cases b4:10<=a
 ·clear y;go_in;go_wp2;exact d.o _ _ z.o
 by_cases k3:k=3
 ·subst k3;have ha:(a != 0)=true:=by
   rw [bne_iff_ne];intro e;rcases y with h|h|h
   ·exact b1 h
   ·exact b2 h
   exact h (.inl ⟨rfl,e⟩)
  clear y;go_in;go_wp2;exact d.o _ _ z.o
 have k4:(k != 4)=true:=by
  rw [bne_iff_ne];intro e;rcases y with h|h|h
  ·exact b1 h
  ·exact b2 h
  exact h (.inr ⟨e,by omega,by omega⟩)
 have h0:(k != 3)=true:=by rw [bne_iff_ne];exact k3
 have h1:(k == 3)=false:=by rw [beq_eq_false_iff_ne];exact k3
 clear y k3;go_in;go_wp2;exact d.o _ _ z.o
theorem zN (w:World) (hf:Fam w0 w (G5 b c x ++ l)) (hx:x.ok c) (h:c.Ok) (k a n:Int) (b1:¬ n<0) (b2:¬ 48<n) (hk:(k=3/\a=0)\/(k=4/\0<=a/\a<10)):Calls prog 93 #[.pointer (some ⟨b,0,none⟩),.int .i64 k,.int .i64 a,.int .i64 n] w (qU w0 l b ((c.give (c.rate*aBp n)).2.dW k a n)):=by
 refine aF fun R hR=>?_;obtain ⟨_,_,_,_,_,x5,_⟩:=bC.cells hf;have x9:=vJ (n:=n) (by omega) (by omega);have x7:=h.k.rt;obtain ⟨an,h9⟩:∃ an,an=aBp n:=⟨_,rfl⟩;have h8:Hid ((7<n/\an=1+(n+7).tdiv 8)\/(¬ 7<n/\an=1)):=by
  show _\/_;rw [h9];unfold aBp
  by_cases e:7<n
  ·rw [if_pos e];exact .inl ⟨e,rfl⟩
  rw [if_neg e];exact .inr ⟨e,rfl⟩
 rw [<-h9] at hR x9;obtain ⟨gm,x1⟩:∃ gm,gm=c.rate*an:=⟨_,rfl⟩;have x6:0<=gm/\gm<=10000:=by
  rw [x1];refine ⟨Int.mul_nonneg x7.1 (by omega),?_⟩;have h1:c.rate*an<=100*an:=Int.mul_le_mul_of_nonneg_right x7.2 (by omega);omega
 have x8:c.rate*an=gm:=x1.symm;rw [x8] at hR;have hw:IntKind.i64.wrap gm=gm:=IntWalk.i64_in (by omega) (by omega);have cg:=zS w hf hx h gm x6;have h6:=aA (h.give x6.1);have a1:¬ a<0:=by omega
 have a2:¬ 10<=a:=by omega
 clear hf hx h h9 x1;generalize c.rate=rt at*;obtain ⟨d,hd⟩:∃ d,d=(c.give gm).2:=⟨_,rfl⟩;rw [<-hd] at cg h6 hR;generalize (c.give gm).1=gn at*;clear hd;have iG:Hid (∀ w1 (y:GX5),y.ok d->Fam w0 w1 (G5 b d y ++ l)->True):=fun _ _ _ _=>trivial;rcases h8.o with ⟨n7,hq⟩|⟨n7,hq⟩
 ·obtain ⟨q,x4⟩:∃ q,q=(n+7).tdiv 8:=⟨_,rfl⟩;have y0:(n+7).tdiv 8=q:=x4.symm;have y1:0<=q/\q<=6:=by rw [x4,Int.tdiv_eq_ediv_of_nonneg (by omega)];omega
  rw [y0] at hq;subst hq;clear x4 h8 iG;rcases hk with ⟨rfl,rfl⟩|⟨rfl,_,_⟩
  ·go_in;go_wp2_with fail;go_fit cg;rintro e w1 ⟨rfl,y,h5,h0⟩;have z3:=(bC.cells h0).2.2.2.1;have z:=aA h5;unfold Co.dW at hR;clear cg;rcases jI h6.o.k with ⟨hp,hb⟩|⟨hp,hb⟩|⟨x2,x3,hb⟩;rotate_left 2
   ·have cm:=pG w1 h0 3 0 n;replace cm:Calls _ _ _ w1 (fun e w'=>e=.returned (.tuple #[.int .i64 (d.m.M.aG 3 0 n).1,.int .i64 (d.m.M.aG 3 0 n).2.1])/\Fam w0 w' (G5 b { d with m:=d.m.put (d.m.M.aG 3 0 n).2.2 } y ++ l)):=cm;have z0:=(bC.cells h0).1;have HR:Hid (∀ w',Fam w0 w' (G5 b { d with m:=d.m.put (d.m.M.aG 3 0 n).2.2 } y ++ l)->R (.returned (.tuple #[.int .i64 (d.m.M.aG 3 0 n).1,.int .i64 (d.m.M.aG 3 0 n).2.1])) w'):=fun w' h2=>hR.o _ _ (by
     rw [if_neg (by rw [hb];decide)];exact ⟨rfl,y,⟨z.o.on,z.o.mv,z.o.m0,z.o.mv2⟩,h2⟩)
    clear hR h0 h5 hb h6;generalize d.m.M.aG 3 0 n=r at*;obtain ⟨r1,r2,r3⟩:=r;generalize h7:d.ph=ph at*;clear h7;go_wp2_with fail;go_fit cm;rintro e w2 ⟨rfl,h3⟩;have HE:=aA h3;clear cm h3;go_wp2_with fail;exact HR.o _ HE.o
   all_goals
    have h4:y.on=true:=h5.on.trans hb;have cm:=jE w1 (G5.t2 (b:=b) (c:=d) (x:=y) (l:=l)) (G5.toR h4 h0) (h6.o.k.mo (by first|exact .inl hp|exact .inr hp)) 3 0 n;rw [G5.rl h4] at cm;replace cm:Calls _ _ _ w1 (fun e w'=>e=.returned (.tuple #[.int .i64 (d.m.aG 3 0 n).1,.int .i64 (d.m.aG 3 0 n).2.1])/\Fam w0 w' (G5 b { d with m:=(d.m.aG 3 0 n).2.2 } y ++ l)):=cm;have z2:=G5.m2 h4 h0;have HR:Hid (∀ w',Fam w0 w' (G5 b { d with m:=(d.m.aG 3 0 n).2.2 } y ++ l)->R (.returned (.tuple #[.int .i64 (d.m.aG 3 0 n).1,.int .i64 (d.m.aG 3 0 n).2.1])) w'):=fun w' h2=>hR.o _ _ (by
     rw [if_pos hb];exact ⟨rfl,y,⟨z.o.on,z.o.mv,z.o.m0,z.o.mv2⟩,h2⟩)
    rw [hp] at z3;clear hR h0 h5 h4 hp hb;generalize d.m.aG 3 0 n=r at*;obtain ⟨r1,r2,r3⟩:=r;go_wp2_with fail;go_fit cm;rintro e w2 ⟨rfl,h3⟩;have HE:=aA h3;clear cm h3;go_wp2_with fail;exact HR.o _ HE.o
  go_in;go_wp2_with fail;go_fit cg;rintro e w1 ⟨rfl,y,h5,h0⟩;have z3:=(bC.cells h0).2.2.2.1;have z:=aA h5;unfold Co.dW at hR;clear cg;rcases jI h6.o.k with ⟨hp,hb⟩|⟨hp,hb⟩|⟨x2,x3,hb⟩;rotate_left 2
  ·have cm:=pG w1 h0 4 a n;replace cm:Calls _ _ _ w1 (fun e w'=>e=.returned (.tuple #[.int .i64 (d.m.M.aG 4 a n).1,.int .i64 (d.m.M.aG 4 a n).2.1])/\Fam w0 w' (G5 b { d with m:=d.m.put (d.m.M.aG 4 a n).2.2 } y ++ l)):=cm;have z0:=(bC.cells h0).1;have HR:Hid (∀ w',Fam w0 w' (G5 b { d with m:=d.m.put (d.m.M.aG 4 a n).2.2 } y ++ l)->R (.returned (.tuple #[.int .i64 (d.m.M.aG 4 a n).1,.int .i64 (d.m.M.aG 4 a n).2.1])) w'):=fun w' h2=>hR.o _ _ (by
    rw [if_neg (by rw [hb];decide)];exact ⟨rfl,y,⟨z.o.on,z.o.mv,z.o.m0,z.o.mv2⟩,h2⟩)
   clear hR h0 h5 hb h6;generalize d.m.M.aG 4 a n=r at*;obtain ⟨r1,r2,r3⟩:=r;generalize h7:d.ph=ph at*;clear h7;go_wp2_with fail;go_fit cm;rintro e w2 ⟨rfl,h3⟩;have HE:=aA h3;clear cm h3;go_wp2_with fail;exact HR.o _ HE.o
  all_goals
   have h4:y.on=true:=h5.on.trans hb;have cm:=jE w1 (G5.t2 (b:=b) (c:=d) (x:=y) (l:=l)) (G5.toR h4 h0) (h6.o.k.mo (by first|exact .inl hp|exact .inr hp)) 4 a n;rw [G5.rl h4] at cm;replace cm:Calls _ _ _ w1 (fun e w'=>e=.returned (.tuple #[.int .i64 (d.m.aG 4 a n).1,.int .i64 (d.m.aG 4 a n).2.1])/\Fam w0 w' (G5 b { d with m:=(d.m.aG 4 a n).2.2 } y ++ l)):=cm;have z2:=G5.m2 h4 h0;have HR:Hid (∀ w',Fam w0 w' (G5 b { d with m:=(d.m.aG 4 a n).2.2 } y ++ l)->R (.returned (.tuple #[.int .i64 (d.m.aG 4 a n).1,.int .i64 (d.m.aG 4 a n).2.1])) w'):=fun w' h2=>hR.o _ _ (by
    rw [if_pos hb];exact ⟨rfl,y,⟨z.o.on,z.o.mv,z.o.m0,z.o.mv2⟩,h2⟩)
   rw [hp] at z3;clear hR h0 h5 h4 hp hb;generalize d.m.aG 4 a n=r at*;obtain ⟨r1,r2,r3⟩:=r;go_wp2_with fail;go_fit cm;rintro e w2 ⟨rfl,h3⟩;have HE:=aA h3;clear cm h3;go_wp2_with fail;exact HR.o _ HE.o
 subst hq;clear h8 iG;rcases hk with ⟨rfl,rfl⟩|⟨rfl,_,_⟩
 ·go_in;go_wp2_with fail;go_fit cg;rintro e w1 ⟨rfl,y,h5,h0⟩;have z3:=(bC.cells h0).2.2.2.1;have z:=aA h5;unfold Co.dW at hR;clear cg;rcases jI h6.o.k with ⟨hp,hb⟩|⟨hp,hb⟩|⟨x2,x3,hb⟩;rotate_left 2
  ·have cm:=pG w1 h0 3 0 n;replace cm:Calls _ _ _ w1 (fun e w'=>e=.returned (.tuple #[.int .i64 (d.m.M.aG 3 0 n).1,.int .i64 (d.m.M.aG 3 0 n).2.1])/\Fam w0 w' (G5 b { d with m:=d.m.put (d.m.M.aG 3 0 n).2.2 } y ++ l)):=cm;have z0:=(bC.cells h0).1;have HR:Hid (∀ w',Fam w0 w' (G5 b { d with m:=d.m.put (d.m.M.aG 3 0 n).2.2 } y ++ l)->R (.returned (.tuple #[.int .i64 (d.m.M.aG 3 0 n).1,.int .i64 (d.m.M.aG 3 0 n).2.1])) w'):=fun w' h2=>hR.o _ _ (by
    rw [if_neg (by rw [hb];decide)];exact ⟨rfl,y,⟨z.o.on,z.o.mv,z.o.m0,z.o.mv2⟩,h2⟩)
   clear hR h0 h5 hb h6;generalize d.m.M.aG 3 0 n=r at*;obtain ⟨r1,r2,r3⟩:=r;generalize h7:d.ph=ph at*;clear h7;go_wp2_with fail;go_fit cm;rintro e w2 ⟨rfl,h3⟩;have HE:=aA h3;clear cm h3;go_wp2_with fail;exact HR.o _ HE.o
  all_goals
   have h4:y.on=true:=h5.on.trans hb;have cm:=jE w1 (G5.t2 (b:=b) (c:=d) (x:=y) (l:=l)) (G5.toR h4 h0) (h6.o.k.mo (by first|exact .inl hp|exact .inr hp)) 3 0 n;rw [G5.rl h4] at cm;replace cm:Calls _ _ _ w1 (fun e w'=>e=.returned (.tuple #[.int .i64 (d.m.aG 3 0 n).1,.int .i64 (d.m.aG 3 0 n).2.1])/\Fam w0 w' (G5 b { d with m:=(d.m.aG 3 0 n).2.2 } y ++ l)):=cm;have z2:=G5.m2 h4 h0;have HR:Hid (∀ w',Fam w0 w' (G5 b { d with m:=(d.m.aG 3 0 n).2.2 } y ++ l)->R (.returned (.tuple #[.int .i64 (d.m.aG 3 0 n).1,.int .i64 (d.m.aG 3 0 n).2.1])) w'):=fun w' h2=>hR.o _ _ (by
    rw [if_pos hb];exact ⟨rfl,y,⟨z.o.on,z.o.mv,z.o.m0,z.o.mv2⟩,h2⟩)
   rw [hp] at z3;clear hR h0 h5 h4 hp hb;generalize d.m.aG 3 0 n=r at*;obtain ⟨r1,r2,r3⟩:=r;go_wp2_with fail;go_fit cm;rintro e w2 ⟨rfl,h3⟩;have HE:=aA h3;clear cm h3;go_wp2_with fail;exact HR.o _ HE.o
 go_in;go_wp2_with fail;go_fit cg;rintro e w1 ⟨rfl,y,h5,h0⟩;have z3:=(bC.cells h0).2.2.2.1;have z:=aA h5;unfold Co.dW at hR;clear cg;rcases jI h6.o.k with ⟨hp,hb⟩|⟨hp,hb⟩|⟨x2,x3,hb⟩;rotate_left 2
 ·have cm:=pG w1 h0 4 a n;replace cm:Calls _ _ _ w1 (fun e w'=>e=.returned (.tuple #[.int .i64 (d.m.M.aG 4 a n).1,.int .i64 (d.m.M.aG 4 a n).2.1])/\Fam w0 w' (G5 b { d with m:=d.m.put (d.m.M.aG 4 a n).2.2 } y ++ l)):=cm;have z0:=(bC.cells h0).1;have HR:Hid (∀ w',Fam w0 w' (G5 b { d with m:=d.m.put (d.m.M.aG 4 a n).2.2 } y ++ l)->R (.returned (.tuple #[.int .i64 (d.m.M.aG 4 a n).1,.int .i64 (d.m.M.aG 4 a n).2.1])) w'):=fun w' h2=>hR.o _ _ (by
   rw [if_neg (by rw [hb];decide)];exact ⟨rfl,y,⟨z.o.on,z.o.mv,z.o.m0,z.o.mv2⟩,h2⟩)
  clear hR h0 h5 hb h6;generalize d.m.M.aG 4 a n=r at*;obtain ⟨r1,r2,r3⟩:=r;generalize h7:d.ph=ph at*;clear h7;go_wp2_with fail;go_fit cm;rintro e w2 ⟨rfl,h3⟩;have HE:=aA h3;clear cm h3;go_wp2_with fail;exact HR.o _ HE.o
 all_goals
  have h4:y.on=true:=h5.on.trans hb;have cm:=jE w1 (G5.t2 (b:=b) (c:=d) (x:=y) (l:=l)) (G5.toR h4 h0) (h6.o.k.mo (by first|exact .inl hp|exact .inr hp)) 4 a n;rw [G5.rl h4] at cm;replace cm:Calls _ _ _ w1 (fun e w'=>e=.returned (.tuple #[.int .i64 (d.m.aG 4 a n).1,.int .i64 (d.m.aG 4 a n).2.1])/\Fam w0 w' (G5 b { d with m:=(d.m.aG 4 a n).2.2 } y ++ l)):=cm;have z2:=G5.m2 h4 h0;have HR:Hid (∀ w',Fam w0 w' (G5 b { d with m:=(d.m.aG 4 a n).2.2 } y ++ l)->R (.returned (.tuple #[.int .i64 (d.m.aG 4 a n).1,.int .i64 (d.m.aG 4 a n).2.1])) w'):=fun w' h2=>hR.o _ _ (by
   rw [if_pos hb];exact ⟨rfl,y,⟨z.o.on,z.o.mv,z.o.m0,z.o.mv2⟩,h2⟩)
  rw [hp] at z3;clear hR h0 h5 h4 hp hb;generalize d.m.aG 4 a n=r at*;obtain ⟨r1,r2,r3⟩:=r;go_wp2_with fail;go_fit cm;rintro e w2 ⟨rfl,h3⟩;have HE:=aA h3;clear cm h3;go_wp2_with fail;exact HR.o _ HE.o
theorem aAD (w:World) (z:Fam w0 w (G5 b c x ++ l)) (hx:x.ok c) (h:c.Ok) (k a n:Int):Calls prog 93 #[.pointer (some ⟨b,0,none⟩),.int .i64 k,.int .i64 a,.int .i64 n] w (qU w0 l b (c.aG k a n)):=by
 unfold Co.aG
 by_cases y:n<0\/48<n\/¬ ((k=3/\a=0)\/(k=4/\0<=a/\a<10))
 ·rw [if_pos y];exact aAC w z hx k a n y
 rw [if_neg y];exact zN w z hx h k a n (fun e=>y (.inl e)) (fun e=>y (.inr (.inl e))) (Classical.not_not.1 (fun e=>y (.inr (.inr e))))
end
