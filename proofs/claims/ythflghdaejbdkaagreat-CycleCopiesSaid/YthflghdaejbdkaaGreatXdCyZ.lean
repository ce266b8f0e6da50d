/- Lemmas of this claim. -/
import Derived.Test.YthflghdaejbdkaaGreatXdCyW
namespace Go.Proofs.YthflghdaejbdkaaGreat
open _root_.Go.Proofs.Tryz (prog)
open Go.RowKit Go.Maps
set_option maxHeartbeats 6400000
set_option maxRecDepth 100000
set_option linter.unusedVariables false
section
variable {w0 w:World} {l:List Asn} {b:Nat} {c:Co} {x:CX} {i:Nat}
theorem Fam.front {A:Asn} (h:Fam w0 w (l ++ [A])):Fam w0 w (A :: l):=by
 refine h.selC (fun k=>if k=0 then l.length else k - 1) (fun k Z hk=>?_) (fun j k hj hk hne=>?_)
 ·match k with
  | 0=>
   show (l ++ [A])[l.length]?=some Z;rw [iR];exact hk
  | k+1=>
   have hk2:l[k]?=some Z:=hk;simp only [show ¬ (k+1=0) by omega,if_false,Nat.add_sub_cancel];exact qM hk2
 rw [List.length_cons] at hj hk;split<;>split<;>omega
theorem aNX (w:World) (n:Int):Calls prog 43 #[.pointer none,.int .i64 n] w (aK w (.tuple #[.int .i64 0,.int .i64 1])):=by
 refine aF fun R hR=>?_;have cn:=rE w;go_in;go_wp2_with fail;refine cn.mono ?_;rintro e _ ⟨rfl,rfl⟩;go_wp2_with fail;exact hR.out _ _ ⟨rfl,rfl⟩
theorem aHa (w:World) (hf:Fam w0 w (C5 b c x ++ l)) (hx:x.ok c) (h:c.Ok) (n:Int):Calls prog 43 #[.pointer (some ⟨b,0,none⟩),.int .i64 n] w (gG w0 l b (c.jF n)):=by
 refine aF fun R hR=>?_;obtain ⟨_,_,x2,_⟩:=bY.cells hf;have cn:=aJ w x2;unfold Co.jF at hR
 by_cases hbad:n<0\/10000<n
 ·rw [if_pos hbad] at hR;have HE:Hid (gG w0 l b (0,1,c) (.returned (.tuple #[.int .i64 0,.int .i64 1])) w):=⟨rfl,x,hx,hf⟩;clear hf hx h
  by_cases b1:n<0
  ·clear hbad;go_in;go_wp2_with fail;refine cn.mono ?_;rintro e _ ⟨rfl,rfl⟩;go_wp2_with fail;exact hR.out _ _ HE.out
  have b2:10000<n:=by omega
  clear hbad;go_in;go_wp2_with fail;refine cn.mono ?_;rintro e _ ⟨rfl,rfl⟩;go_wp2_with fail;exact hR.out _ _ HE.out
 rw [if_neg hbad] at hR;have b1:¬ n<0:=by omega
 have b2:¬ 10000<n:=by omega
 have cg:=lC w hf hx h n ⟨by omega,by omega⟩;clear hf hx h hbad;go_in;go_wp2_with fail;refine cn.mono ?_;rintro e _ ⟨rfl,rfl⟩;go_wp2_with fail;refine cg.mono ?_;rintro e w1 ⟨rfl,x1,hx1,hf1⟩;have HE:Hid (gG w0 l b ((c.give n).1,0,(c.give n).2) (.returned (.tuple #[.int .i64 (c.give n).1,.int .i64 0])) w1):=⟨rfl,x1,hx1,hf1⟩;clear cg hx1 hf1;go_wp2_with fail;exact hR.out _ _ HE.out
theorem aLI (w:World) (hf:Fam w0 w (C5 b c x ++ l)) (h:c.Okc) (y s:Int) (hy:wfI y):Calls prog 47 #[.pointer (some ⟨b,0,none⟩),.int .i64 y,.int .i64 s] w (Same w (.tuple #[.int .i64 (c.get y s).1,.int .i64 (c.get y s).2])):=by
 refine aF fun R hR=>?_;obtain ⟨_,_,x2,_⟩:=bY.cells hf;have cn:=aJ w x2;have ch:=eY w hf h y hy;unfold Co.get at hR
 cases hh:c.hid y with
 | true=>
  rw [hh] at ch hR;replace hR:Hid (∀ e w',Same w (.tuple #[.int .i64 0,.int .i64 3]) e w'->R e w'):=hR;clear hf h hh;go_in;go_wp2_with fail;refine cn.mono ?_;rintro e _ ⟨rfl,rfl⟩;go_wp2_with fail;refine ch.mono ?_;rintro e _ ⟨rfl,k,rfl⟩;go_wp2_with fail;exact hR.out _ _ ⟨rfl,k,rfl⟩
 | false=>
  rw [hh] at ch hR;replace hR:Hid (∀ e w',Same w (.tuple #[.int .i64 (c.m.M.get y s).1,.int .i64 (c.m.M.get y s).2]) e w'->R e w'):=hR;have HC:Hid (∀ n,(w.drewN n).cell? ⟨b,2,none⟩=some (.pointer (some ⟨x.hb,0,none⟩))/\Calls prog 122 #[.pointer (some ⟨x.hb,0,none⟩),.int .i64 y,.int .i64 s] (w.drewN n) (Same (w.drewN n) (.tuple #[.int .i64 (c.m.M.get y s).1,.int .i64 (c.m.M.get y s).2]))):=fun n=>by
   obtain ⟨hk,L,X,hp⟩:=C5.ph (hf.drewN n);exact ⟨(bY.cells (hf.drewN n)).2.2.1,aEa _ hp hk y s hy⟩
  clear hf h hh;go_in;go_wp2_with fail;refine cn.mono ?_;rintro e _ ⟨rfl,rfl⟩;go_wp2_with fail;refine ch.mono ?_;rintro e _ ⟨rfl,k,rfl⟩;obtain ⟨z2,cg⟩:=HC.out k;clear ch HC x2;go_wp2_with fail;refine cg.mono ?_;rintro e w2 ⟨rfl,k2,rfl⟩;clear cg;go_wp2_with fail;exact hR.out _ _ ⟨rfl,k+k2,rfl⟩
def aOc (w0:World) (l:List Asn) (b:Nat) (r:Int×Co) (e:Ending) (w':World):Prop:=e=.returned (.int .i64 r.1)/\∃ x':CX,x'.ok r.2/\Fam w0 w' (C5 b r.2 x' ++ l)
theorem aCT (w:World) (hf:Fam w0 w (C5 b c x ++ l)) (hx:x.ok c) (h:c.Okc) (y s v:Int) (hy:wfI y) (hv:wfI v) (hh:c.hid y=false) (hr:(c.m.M.isRef y s).1=true->c.hid v=false):Calls prog 52 #[.pointer (some ⟨b,0,none⟩),.int .i64 y,.int .i64 s,.int .i64 v] w (aOc w0 l b (c.store y s v)):=by
 refine aF fun R hR=>?_;obtain ⟨_,_,x2,_⟩:=bY.cells hf;have cn:=aJ w x2;have ch:=eY w hf h y hy;rw [hh] at ch;have HST:Hid (c.store y s v=if c.bar=true then ((c.m.store y s v).1,({ c with m:=(c.m.store y s v).2 }:Co)) else ((c.m.M.set y s v).1,({ c with m:=c.m.put (c.m.M.set y s v).2 }:Co))):=by
  show _=_;unfold Co.store;rw [if_neg (fun e=>by rcases e with e|e;rw [hh] at e;cases e;have:=hr e.1;rw [this] at e;cases e.2)]
 rw [HST.out] at hR;have HF:=aA hf;have HX:=aA hx;have HH:=aA h;have HWY:=aA hy;have HWV:=aA hv;clear hf hx h hy hv hh HST;go_in;go_wp2_with fail;refine cn.mono ?_;rintro e _ ⟨rfl,rfl⟩;clear cn;go_wp2_with fail;refine ch.mono ?_;rintro e _ ⟨rfl,k,rfl⟩;have F1:=aA (HF.out.drewN k);generalize w.drewN k=w1 at*;obtain ⟨_,_,z2,_⟩:=bY.cells F1.out;obtain ⟨hk1,L1,X1,hp1⟩:=C5.ph F1.out;have ci:=qP w1 hp1 hk1 y s HWY.out;clear ch x2 HF hk1 hp1;have HB:Hid (∀ wx,Fam w0 wx (C5 b c x ++ l)->Calls prog 117 #[.pointer (some ⟨b,0,none⟩)] wx (aK wx (.bool c.bar))):=fun wx hx=>gQ wx hx HH.out;have HS:Hid (∀ wx,Fam w0 wx (C5 b c x ++ l)->Calls prog 127 #[.pointer (some ⟨x.hb,0,none⟩),.int .i64 y,.int .i64 s,.int .i64 v] wx (fun e w'=>e=.returned (.int .i64 (c.m.M.set y s v).1)/\Fam w0 w' (C5 b (c.oH (c.m.put (c.m.M.set y s v).2)) x ++ l))):=fun wx hx=>aET wx hx y s v HWY.out HWV.out;have HMS:Hid (c.bar=true->∀ wx,Fam w0 wx (C5 b c x ++ l)->Calls prog 126 #[.pointer (some ⟨x.p,0,none⟩),.int .i64 y,.int .i64 s,.int .i64 v] wx (fun e w'=>e=.returned (.int .i64 (c.m.store y s v).1)/\Fam w0 w' (C5 b (c.oH (c.m.store y s v).2) x ++ l))):=fun hb wx hx=>aGa wx (C5.t2 (b:=b) (c:=c) (x:=x) (l:=l)) (hb:=x.hb) (p:=x.p) (m:=c.m) hx (HH.out.mo (dD.1 hb)) y s v HWY.out HWV.out
 cases hrr:(c.m.M.isRef y s).1 with
 | true=>
  have cv:Hid (∀ wx,Fam w0 wx (C5 b c x ++ l)->Calls prog 121 #[.pointer (some ⟨b,0,none⟩),.int .i64 v] wx (Same wx (.bool false))):=fun wx hx=>by
   have:=eY wx hx HH.out v HWV.out;rw [hr hrr] at this;exact this
  rw [hrr] at ci;clear hr hrr;generalize (c.m.M.isRef y s).2=re at*;go_wp2_with fail;refine ci.mono ?_;rintro e _ ⟨rfl,rfl⟩;have cv2:=cv.out _ F1.out;clear ci cv;go_wp2_with fail;refine cv2.mono ?_;rintro e _ ⟨rfl,k2,rfl⟩;have F2:=aA (F1.out.drewN k2);generalize w1.drewN k2=w2 at*;have cb:=HB.out w2 F2.out;obtain ⟨_,_,y2,_,y4,_⟩:=bY.cells F2.out;clear cv2 F1 z2
  cases hb:c.bar with
  | true=>
   rw [hb] at cb hR;have cs:=HMS.out hb w2 F2.out;clear hb HS;go_wp2_with fail;refine cb.mono ?_;rintro e _ ⟨rfl,rfl⟩;clear cb;go_wp2_with fail;refine cs.mono ?_;rintro e w3 ⟨rfl,hf3⟩;have HE:=aA hf3;clear cs hf3;go_wp2_with fail;exact hR.out _ _ ⟨rfl,x,⟨HX.out.ov,HX.out.mv,HX.out.mv2⟩,HE.out⟩
  | false=>
   rw [hb] at cb hR;have cs:=HS.out w2 F2.out;clear hb HMS;go_wp2_with fail;refine cb.mono ?_;rintro e _ ⟨rfl,rfl⟩;clear cb;go_wp2_with fail;refine cs.mono ?_;rintro e w3 ⟨rfl,hf3⟩;have HE:=aA hf3;clear cs hf3;go_wp2_with fail;exact hR.out _ _ ⟨rfl,x,⟨HX.out.ov,HX.out.mv,HX.out.mv2⟩,HE.out⟩
 | false=>
  rw [hrr] at ci;have cb:=HB.out w1 F1.out;obtain ⟨_,_,y2,_,y4,_⟩:=bY.cells F1.out;clear hr hrr;generalize (c.m.M.isRef y s).2=re at *
  cases hb:c.bar with
  | true=>
   rw [hb] at cb hR;have cs:=HMS.out hb w1 F1.out;clear hb HS;go_wp2_with fail;refine ci.mono ?_;rintro e _ ⟨rfl,rfl⟩;clear ci;go_wp2_with fail;refine cb.mono ?_;rintro e _ ⟨rfl,rfl⟩;clear cb;go_wp2_with fail;refine cs.mono ?_;rintro e w3 ⟨rfl,hf3⟩;have HE:=aA hf3;clear cs hf3;go_wp2_with fail;exact hR.out _ _ ⟨rfl,x,⟨HX.out.ov,HX.out.mv,HX.out.mv2⟩,HE.out⟩
  | false=>
   rw [hb] at cb hR;have cs:=HS.out w1 F1.out;clear hb HMS;go_wp2_with fail;refine ci.mono ?_;rintro e _ ⟨rfl,rfl⟩;clear ci;go_wp2_with fail;refine cb.mono ?_;rintro e _ ⟨rfl,rfl⟩;clear cb;go_wp2_with fail;refine cs.mono ?_;rintro e w3 ⟨rfl,hf3⟩;have HE:=aA hf3;clear cs hf3;go_wp2_with fail;exact hR.out _ _ ⟨rfl,x,⟨HX.out.ov,HX.out.mv,HX.out.mv2⟩,HE.out⟩
theorem aGO (w:World) (hf:Fam w0 w (C5 b c x ++ l)) (hx:x.ok c) (h:c.Okc) (y s v:Int) (hy:wfI y) (hv:wfI v):Calls prog 52 #[.pointer (some ⟨b,0,none⟩),.int .i64 y,.int .i64 s,.int .i64 v] w (aOc w0 l b (c.store y s v)):=by
 cases hh:c.hid y with
 | true=>
  refine aF fun R hR=>?_;obtain ⟨_,_,x2,_⟩:=bY.cells hf;have cn:=aJ w x2;have ch:=eY w hf h y hy;rw [hh] at ch;have HST:Hid (c.store y s v=(3,c)):=by show _=_;unfold Co.store;rw [if_pos (.inl hh)]
  rw [HST.out] at hR;have HF:=aA hf;have HX:=aA hx;clear hf hx h hh HST;go_in;go_wp2_with fail;refine cn.mono ?_;rintro e _ ⟨rfl,rfl⟩;go_wp2_with fail;refine ch.mono ?_;rintro e _ ⟨rfl,k,rfl⟩;have F1:=aA (HF.out.drewN k);clear ch;go_wp2_with fail;exact hR.out _ _ ⟨rfl,x,HX.out,F1.out⟩
 | false=>
  by_cases hb:(c.m.M.isRef y s).1=true/\c.hid v=true
  ·refine aF fun R hR=>?_;obtain ⟨_,_,x2,_⟩:=bY.cells hf;have cn:=aJ w x2;have ch:=eY w hf h y hy;rw [hh] at ch;have HST:Hid (c.store y s v=(3,c)):=by show _=_;unfold Co.store;rw [if_pos (.inr hb)]
   rw [HST.out] at hR;have HF:=aA hf;have HX:=aA hx;have HC:Hid (∀ wx,Fam w0 wx (C5 b c x ++ l)->Calls prog 125 #[.pointer (some ⟨x.hb,0,none⟩),.int .i64 y,.int .i64 s] wx (aK wx (.tuple #[.bool true,.int .i64 (c.m.M.isRef y s).2]))/\Calls prog 121 #[.pointer (some ⟨b,0,none⟩),.int .i64 v] wx (Same wx (.bool true))):=fun wx hx=>by
    obtain ⟨hk1,L1,X1,hp1⟩:=C5.ph hx;have c1:=qP wx hp1 hk1 y s hy;have c2:=eY wx hx h v hv;rw [hb.1] at c1;rw [hb.2] at c2;exact ⟨c1,c2⟩
   generalize (c.m.M.isRef y s).2=re at*;clear hf hx h hh HST hb;go_in;go_wp2_with fail;refine cn.mono ?_;rintro e _ ⟨rfl,rfl⟩;go_wp2_with fail;refine ch.mono ?_;rintro e _ ⟨rfl,k,rfl⟩;have F1:=aA (HF.out.drewN k);generalize w.drewN k=w1 at*;obtain ⟨_,_,z2,_⟩:=bY.cells F1.out;obtain ⟨c1,c2⟩:=HC.out _ F1.out;clear ch x2;go_wp2_with fail;refine c1.mono ?_;rintro e _ ⟨rfl,rfl⟩;clear c1;go_wp2_with fail;refine c2.mono ?_;rintro e _ ⟨rfl,k2,rfl⟩;have F2:=aA (F1.out.drewN k2);clear c2;go_wp2_with fail;exact hR.out _ _ ⟨rfl,x,HX.out,F2.out⟩
  exact aCT w hf hx h y s v hy hv hh (fun e=>by cases hv2:c.hid v;rfl;exact absurd ⟨e,hv2⟩ hb)
theorem aJy (w:World) (hf:Fam w0 w (C5 b c x ++ l)):Calls prog 55 #[.pointer (some ⟨b,0,none⟩)] w (fun e w'=>∃ q,e=.returned (.pointer (some ⟨q,0,none⟩))/\Only [] w w'/\Fam w0 w' (C5 b c x ++ (l ++ [PH q c.m.M]))):=by
 refine aF fun R hR=>?_;obtain ⟨_,_,x2,_⟩:=bY.cells hf;have cn:=aJ w x2;have ch:=aDT w hf;clear hf;go_in;go_wp2_with fail;refine cn.mono ?_;rintro e _ ⟨rfl,rfl⟩;go_wp2_with fail;refine ch.mono ?_;rintro e w1 ⟨q,rfl,ho,hf1⟩;have HE:=aA (And.intro ho hf1);clear ch ho hf1;go_wp2_with fail;exact hR.out _ _ ⟨q,rfl,HE.out⟩
theorem aBE (t:Tb):t.take.2.2.ents=t.ents/\t.take.2.2.ph=t.ph:=by unfold Tb.take;split<;>exact ⟨rfl,rfl⟩
theorem aJt (w:World) (hf:Fam w0 w (C5 b c x ++ l)) (hx:x.ok c) (h:c.Okc):Calls prog 50 #[.pointer (some ⟨b,0,none⟩)] w (gG w0 l b c.take):=by
 refine aF fun R hR=>?_;obtain ⟨_,_,x2,x3,_⟩:=bY.cells hf;have cn:=aJ w x2;have ct:=aHv w (C5.t3 (b:=b) (c:=c) (x:=x) (l:=l)) (hb:=x.hb) (p:=x.p) (b:=x.tb) (m:=c.m) (t:=c.t) (kk:=c.t.ents.length) hf (by have:=h.tg.b.q20;omega);have HR:Hid (∀ w',Fam w0 w' (PL (C5 b c x ++ l) 0 1 2 x.hb x.p x.tb c.m c.t.take.2.2 c.t.ents.length)->R (.returned (.tuple #[.int .i64 c.t.take.1,.int .i64 c.t.take.2.1])) w'):=fun w' h2=>by
  rw [<-(aBE c.t).1] at h2;exact hR.out _ _ ⟨rfl,x,⟨fun e=>by show x.ov=decide (c.t.take.2.2.ph=0);rw [(aBE c.t).2];exact hx.ov e,hx.mv,hx.mv2⟩,h2⟩
 clear hf hx h hR;generalize c.t.take=r at*;obtain ⟨r1,r2,r3⟩:=r;go_in;go_wp2_with fail;refine cn.mono ?_;rintro e _ ⟨rfl,rfl⟩;go_wp2_with fail;refine ct.mono ?_;rintro e w1 ⟨rfl,hf1⟩;have HE:=aA hf1;clear ct hf1;go_wp2_with fail;exact HR.out _ HE.out
end
section
variable {w0 w:World} {l:List Asn} {b:Nat} {c:Co} {x:CX} {i:Nat}
theorem aJW (w:World) (k:Int) (v:Value):Calls prog 45 #[.pointer none,.int .i64 k,v] w (aK w (.tuple #[.int .i64 0,.int .i64 1])):=by
 refine aF fun R hR=>?_;have cn:=rE w;go_in;go_wp2_with fail;refine cn.mono ?_;rintro e _ ⟨rfl,rfl⟩;go_wp2_with fail;exact hR.out _ _ ⟨rfl,rfl⟩
theorem aII (w:World) (hf:Fam w0 w (C5 b c x ++ l)) (k:Int) (v:Value) (bl:List Bool) (hv:aAx w v bl) (hl:bl.length<=1000000):Calls prog 82 #[.pointer (some ⟨x.hb,0,none⟩),.int .i64 k,v] w (fun e w'=>e=.returned (.tuple #[.int .i64 (c.m.M.aH k bl).1,.int .i64 (c.m.M.aH k bl).2.1])/\Fam w0 w' (C5 b (c.oH (c.m.put (c.m.M.aH k bl).2.2)) x ++ l)):=
 hf.aBV 0 rfl (M':=(c.m.M.aH k bl).2.2) (fun hk=>hk.aH k bl) (fun L X hr hk=>qK w hr hk k v bl hv hl)
theorem qR (w:World) (hf:Fam w0 w (C5 b c x ++ l)) (k a n:Int):Calls prog 120 #[.pointer (some ⟨x.hb,0,none⟩),.int .i64 k,.int .i64 a,.int .i64 n] w (fun e w'=>e=.returned (.tuple #[.int .i64 (c.m.M.aG k a n).1,.int .i64 (c.m.M.aG k a n).2.1])/\Fam w0 w' (C5 b (c.oH (c.m.put (c.m.M.aG k a n).2.2)) x ++ l)):=
 hf.aBV 0 rfl (M':=(c.m.M.aG k a n).2.2) (fun hk=>hk.aG k a n) (fun L X hr hk=>uJ w hr hk k a n)
theorem zN (w:World) (hf:Fam w0 w (C5 b c x ++ l)) (hx:x.ok c) (h:c.Ok) (k:Int) (va:Option Addr) (n vc:Nat) (bl:List Bool) (hn:bl.length=n) (hl:n<=1000000) (hv:∀ wx (c':Co) (x':CX),Fam w0 wx (C5 b c' x' ++ l)->aAx wx (.slice va n vc) bl) :
  Calls prog 45 #[.pointer (some ⟨b,0,none⟩),.int .i64 k,.slice va n vc] w (gG w0 l b (c.aH k bl)):=by
 refine aF fun R hR=>?_;obtain ⟨_,x1,x2,_⟩:=bY.cells hf;have cn:=aJ w x2;unfold Co.aH at hR
 by_cases hbad:k<0\/10<=k\/7<bl.length
 ·rw [if_pos hbad] at hR;rw [hn] at hbad;have HE:Hid (gG w0 l b (0,1,c) (.returned (.tuple #[.int .i64 0,.int .i64 1])) w):=⟨rfl,x,hx,hf⟩;clear hf hx h hv hn hl
  by_cases b1:k<0
  ·clear hbad;go_in;go_wp2_with fail;refine cn.mono ?_;rintro e _ ⟨rfl,rfl⟩;go_wp2_with fail;exact hR.out _ _ HE.out
  by_cases b2:10<=k
  ·clear hbad;go_in;go_wp2_with fail;refine cn.mono ?_;rintro e _ ⟨rfl,rfl⟩;go_wp2_with fail;exact hR.out _ _ HE.out
  have b3:(7:Int)<n:=by omega
  clear hbad;go_in;go_wp2_with fail;refine cn.mono ?_;rintro e _ ⟨rfl,rfl⟩;go_wp2_with fail;exact hR.out _ _ HE.out
 rw [if_neg hbad] at hR;rw [hn] at hbad;have b1:¬ k<0:=by omega
 have b2:¬ 10<=k:=by omega
 have b3:¬ (7:Int)<n:=by omega
 have cg:=lC w hf hx h c.rate ⟨h.k.rt.1,by have:=h.k.rt.2;omega⟩;have HOK:=aA (h.give h.k.rt.1);have HV:=aA hv;have HL:=aA hl;have HN:=aA hn;clear hf hx h hbad hv hl hn;obtain ⟨d,hd⟩:∃ d,d=(c.give c.rate).2:=⟨_,rfl⟩;rw [<-hd] at cg HOK hR;generalize (c.give c.rate).1=gn at*;clear hd;go_in;go_wp2_with fail;refine cn.mono ?_;rintro e _ ⟨rfl,rfl⟩;clear cn;go_wp2_with fail;refine cg.mono ?_;rintro e w1 ⟨rfl,x1',hx1,hf1⟩;have cb:=gQ w1 hf1 HOK.out.k;obtain ⟨_,_,z2,_,z4,_⟩:=bY.cells hf1;have hba:=HV.out w1 d x1' hf1;have HX1:=aA hx1;unfold Co.newObj at hR
 cases hb:d.bar with
 | true=>
  rw [hb] at cb hR;have cm:=zG w1 (C5.t2 (b:=b) (c:=d) (x:=x1') (l:=l)) (hb:=x1'.hb) (p:=x1'.p) (m:=d.m) hf1 (HOK.out.k.mo (dD.1 hb)) k (.slice va n vc) bl hba (by rw [HN.out];exact HL.out);have HR:Hid (∀ w',Fam w0 w' (C5 b { d with m:=(d.m.aH k bl).2.2 } x1' ++ l)->R (.returned (.tuple #[.int .i64 (d.m.aH k bl).1,.int .i64 (d.m.aH k bl).2.1])) w'):=fun w' h2=>hR.out _ _ ⟨rfl,x1',⟨HX1.out.ov,HX1.out.mv,HX1.out.mv2⟩,h2⟩;replace cm:Calls prog 118 #[.pointer (some ⟨x1'.p,0,none⟩),.int .i64 k,.slice va n vc] w1 (fun e w'=>e=.returned (.tuple #[.int .i64 (d.m.aH k bl).1,.int .i64 (d.m.aH k bl).2.1])/\Fam w0 w' (C5 b { d with m:=(d.m.aH k bl).2.2 } x1' ++ l)):=cm;clear hR hb hf1 hx1 hba cg;generalize d.m.aH k bl=r at*;obtain ⟨r1,r2,r3⟩:=r;go_wp2_with fail;refine cb.mono ?_;rintro e _ ⟨rfl,rfl⟩;clear cb;go_wp2_with fail;refine cm.mono ?_;rintro e w2 ⟨rfl,hf2⟩;have HE:=aA hf2;clear cm hf2;go_wp2_with fail;exact HR.out _ HE.out
 | false=>
  rw [hb] at cb hR;have cm:=aII w1 hf1 k (.slice va n vc) bl hba (by rw [HN.out];exact HL.out);have HR:Hid (∀ w',Fam w0 w' (C5 b { d with m:=d.m.put (d.m.M.aH k bl).2.2 } x1' ++ l)->R (.returned (.tuple #[.int .i64 (d.m.M.aH k bl).1,.int .i64 (d.m.M.aH k bl).2.1])) w'):=fun w' h2=>hR.out _ _ ⟨rfl,x1',⟨HX1.out.ov,HX1.out.mv,HX1.out.mv2⟩,h2⟩;replace cm:Calls prog 82 #[.pointer (some ⟨x1'.hb,0,none⟩),.int .i64 k,.slice va n vc] w1 (fun e w'=>e=.returned (.tuple #[.int .i64 (d.m.M.aH k bl).1,.int .i64 (d.m.M.aH k bl).2.1])/\Fam w0 w' (C5 b { d with m:=d.m.put (d.m.M.aH k bl).2.2 } x1' ++ l)):=cm;clear hR hb hf1 hx1 hba cg;generalize d.m.M.aH k bl=r at*;obtain ⟨r1,r2,r3⟩:=r;go_wp2_with fail;refine cb.mono ?_;rintro e _ ⟨rfl,rfl⟩;clear cb;go_wp2_with fail;refine cm.mono ?_;rintro e w2 ⟨rfl,hf2⟩;have HE:=aA hf2;clear cm hf2;go_wp2_with fail;exact HR.out _ HE.out
end
section
variable {w0 w:World} {l:List Asn} {b:Nat} {c:Co} {x:CX} {i:Nat}
theorem aDO (w:World) (hf:Fam w0 w (C5 b c x ++ l)) (hx:x.ok c) (a n:Int) (h:a≠0):Calls prog 46 #[.pointer (some ⟨b,0,none⟩),.int .i64 3,.int .i64 a,.int .i64 n] w (gG w0 l b (0,1,c)):=by
 refine aF fun R hR=>?_;obtain ⟨_,_,x2,_⟩:=bY.cells hf;have cn:=aJ w x2;have HE:Hid (gG w0 l b (0,1,c) (.returned (.tuple #[.int .i64 0,.int .i64 1])) w):=⟨rfl,x,hx,hf⟩;have e1:(a == 0)=false:=by simpa using h
 clear h;clear hf hx;go_in;go_wp2_with fail;refine cn.mono ?_;rintro e _ ⟨rfl,rfl⟩;clear cn;go_wp2_with fail;exact hR.out _ _ HE.out
theorem aCg (w:World) (hf:Fam w0 w (C5 b c x ++ l)) (hx:x.ok c) (a n:Int) (h:a<0):Calls prog 46 #[.pointer (some ⟨b,0,none⟩),.int .i64 4,.int .i64 a,.int .i64 n] w (gG w0 l b (0,1,c)):=by
 refine aF fun R hR=>?_;obtain ⟨_,_,x2,_⟩:=bY.cells hf;have cn:=aJ w x2;have HE:Hid (gG w0 l b (0,1,c) (.returned (.tuple #[.int .i64 0,.int .i64 1])) w):=⟨rfl,x,hx,hf⟩;clear hf hx;go_in;go_wp2_with fail;refine cn.mono ?_;rintro e _ ⟨rfl,rfl⟩;clear cn;go_wp2_with fail;exact hR.out _ _ HE.out
theorem aCh (w:World) (hf:Fam w0 w (C5 b c x ++ l)) (hx:x.ok c) (a n:Int) (h:10<=a):Calls prog 46 #[.pointer (some ⟨b,0,none⟩),.int .i64 4,.int .i64 a,.int .i64 n] w (gG w0 l b (0,1,c)):=by
 refine aF fun R hR=>?_;obtain ⟨_,_,x2,_⟩:=bY.cells hf;have cn:=aJ w x2;have HE:Hid (gG w0 l b (0,1,c) (.returned (.tuple #[.int .i64 0,.int .i64 1])) w):=⟨rfl,x,hx,hf⟩;have h0:0<=a:=by omega
 clear hf hx;go_in;go_wp2_with fail;refine cn.mono ?_;rintro e _ ⟨rfl,rfl⟩;clear cn;go_wp2_with fail;exact hR.out _ _ HE.out
theorem aDN (w:World) (hf:Fam w0 w (C5 b c x ++ l)) (hx:x.ok c) (k a n:Int) (h3:k≠3) (h4:k≠4):Calls prog 46 #[.pointer (some ⟨b,0,none⟩),.int .i64 k,.int .i64 a,.int .i64 n] w (gG w0 l b (0,1,c)):=by
 refine aF fun R hR=>?_;obtain ⟨_,_,x2,_⟩:=bY.cells hf;have cn:=aJ w x2;have HE:Hid (gG w0 l b (0,1,c) (.returned (.tuple #[.int .i64 0,.int .i64 1])) w):=⟨rfl,x,hx,hf⟩;have e1:(k == 3)=false:=by simpa using h3
 have e2:(k == 4)=false:=by simpa using h4
 clear h3 h4;clear hf hx;go_in;go_wp2_with fail;refine cn.mono ?_;rintro e _ ⟨rfl,rfl⟩;clear cn;go_wp2_with fail;exact hR.out _ _ HE.out
theorem aCe (w:World) (hf:Fam w0 w (C5 b c x ++ l)) (hx:x.ok c) (n:Int)  (h:n<0):Calls prog 46 #[.pointer (some ⟨b,0,none⟩),.int .i64 3,.int .i64 0,.int .i64 n] w (gG w0 l b (0,1,c)):=by
 refine aF fun R hR=>?_;obtain ⟨_,_,x2,_⟩:=bY.cells hf;have cn:=aJ w x2;have HE:Hid (gG w0 l b (0,1,c) (.returned (.tuple #[.int .i64 0,.int .i64 1])) w):=⟨rfl,x,hx,hf⟩;clear hf hx;go_in;go_wp2_with fail;refine cn.mono ?_;rintro e _ ⟨rfl,rfl⟩;clear cn;go_wp2_with fail;exact hR.out _ _ HE.out
theorem aCf (w:World) (hf:Fam w0 w (C5 b c x ++ l)) (hx:x.ok c) (n:Int)  (h:48<n):Calls prog 46 #[.pointer (some ⟨b,0,none⟩),.int .i64 3,.int .i64 0,.int .i64 n] w (gG w0 l b (0,1,c)):=by
 refine aF fun R hR=>?_;obtain ⟨_,_,x2,_⟩:=bY.cells hf;have cn:=aJ w x2;have HE:Hid (gG w0 l b (0,1,c) (.returned (.tuple #[.int .i64 0,.int .i64 1])) w):=⟨rfl,x,hx,hf⟩;have h0:¬ n<0:=by omega
 clear hf hx;go_in;go_wp2_with fail;refine cn.mono ?_;rintro e _ ⟨rfl,rfl⟩;clear cn;go_wp2_with fail;exact hR.out _ _ HE.out
theorem aDL (w:World) (hf:Fam w0 w (C5 b c x ++ l)) (hx:x.ok c) (h0:c.Ok) (n:Int)  (hn0:0<=n) (aIJ:n<=48) (h:n<8):Calls prog 46 #[.pointer (some ⟨b,0,none⟩),.int .i64 3,.int .i64 0,.int .i64 n] w (gG w0 l b ((c.give (c.rate*aAu n)).2.gZ 3 0 n)):=by
 refine aF fun R hR=>?_;obtain ⟨_,x1,x2,_⟩:=bY.cells hf;have cn:=aJ w x2;have hP:c.rate*aAu n=c.rate:=by unfold aAu;rw [if_neg (by omega),Int.mul_one]
 have hP0:=h0.k.rt;rw [hP] at hR;obtain ⟨P,hPP⟩:∃ P,P=c.rate:=⟨_,rfl⟩;have e3:P*1=P:=Int.mul_one P;rw [<-hPP] at hR hP0;have HOK:=aA (h0.give (n:=P) (by omega));have cg:=lC w hf hx h0 P ⟨by omega,by omega⟩;rw [<-hPP] at x1;have n1:¬ n<0:=by omega
 have n2:¬ 48<n:=by omega
 clear hf hx h0 hP hPP;obtain ⟨d,hd⟩:∃ d,d=(c.give P).2:=⟨_,rfl⟩;rw [<-hd] at cg HOK hR;generalize (c.give P).1=gn at*;clear hd;go_in;go_wp2_with fail;refine cn.mono ?_;rintro e _ ⟨rfl,rfl⟩;clear cn;go_wp2_with fail;refine cg.mono ?_;rintro e w1 ⟨rfl,x1',hx1,hf1⟩;have cb:=gQ w1 hf1 HOK.out.k;obtain ⟨_,_,z2,_,z4,_⟩:=bY.cells hf1;have HX1:=aA hx1;unfold Co.gZ at hR
 cases hb:d.bar with
 | true=>
  rw [hb] at cb hR;have HR:Hid (∀ w',Fam w0 w' (C5 b { d with m:=(d.m.aG 3 0 n).2.2 } x1' ++ l)->R (.returned (.tuple #[.int .i64 (d.m.aG 3 0 n).1,.int .i64 (d.m.aG 3 0 n).2.1])) w'):=fun w' h2=>hR.out _ _ ⟨rfl,x1',⟨HX1.out.ov,HX1.out.mv,HX1.out.mv2⟩,h2⟩;have cm:Calls prog 119 #[.pointer (some ⟨x1'.p,0,none⟩),.int .i64 3,.int .i64 0,.int .i64 n] w1 (fun e w'=>e=.returned (.tuple #[.int .i64 (d.m.aG 3 0 n).1,.int .i64 (d.m.aG 3 0 n).2.1])/\Fam w0 w' (C5 b { d with m:=(d.m.aG 3 0 n).2.2 } x1' ++ l)):=jH w1 (C5.t2 (b:=b) (c:=d) (x:=x1') (l:=l)) (hb:=x1'.hb) (p:=x1'.p) (m:=d.m) hf1 (HOK.out.k.mo (dD.1 hb)) 3 0 n;clear hR hb hf1 hx1 cg;generalize d.m.aG 3 0 n=r at*;obtain ⟨r1,r2,r3⟩:=r;go_wp2_with fail;refine cb.mono ?_;rintro e _ ⟨rfl,rfl⟩;clear cb;go_wp2_with fail;refine cm.mono ?_;rintro e w2 ⟨rfl,hf2⟩;have HE:=aA hf2;clear cm hf2;go_wp2_with fail;exact HR.out _ HE.out
 | false=>
  rw [hb] at cb hR;have HR:Hid (∀ w',Fam w0 w' (C5 b { d with m:=d.m.put (d.m.M.aG 3 0 n).2.2 } x1' ++ l)->R (.returned (.tuple #[.int .i64 (d.m.M.aG 3 0 n).1,.int .i64 (d.m.M.aG 3 0 n).2.1])) w'):=fun w' h2=>hR.out _ _ ⟨rfl,x1',⟨HX1.out.ov,HX1.out.mv,HX1.out.mv2⟩,h2⟩;have cm:Calls prog 120 #[.pointer (some ⟨x1'.hb,0,none⟩),.int .i64 3,.int .i64 0,.int .i64 n] w1 (fun e w'=>e=.returned (.tuple #[.int .i64 (d.m.M.aG 3 0 n).1,.int .i64 (d.m.M.aG 3 0 n).2.1])/\Fam w0 w' (C5 b { d with m:=d.m.put (d.m.M.aG 3 0 n).2.2 } x1' ++ l)):=qR w1 hf1 3 0 n;clear hR hb hf1 hx1 cg;generalize d.m.M.aG 3 0 n=r at*;obtain ⟨r1,r2,r3⟩:=r;go_wp2_with fail;refine cb.mono ?_;rintro e _ ⟨rfl,rfl⟩;clear cb;go_wp2_with fail;refine cm.mono ?_;rintro e w2 ⟨rfl,hf2⟩;have HE:=aA hf2;clear cm hf2;go_wp2_with fail;exact HR.out _ HE.out
theorem aDM (w:World) (hf:Fam w0 w (C5 b c x ++ l)) (hx:x.ok c) (h0:c.Ok) (n:Int)  (hn0:0<=n) (aIJ:n<=48) (h:8<=n):Calls prog 46 #[.pointer (some ⟨b,0,none⟩),.int .i64 3,.int .i64 0,.int .i64 n] w (gG w0 l b ((c.give (c.rate*aAu n)).2.gZ 3 0 n)):=by
 refine aF fun R hR=>?_;obtain ⟨_,x1,x2,_⟩:=bY.cells hf;have cn:=aJ w x2;obtain ⟨q,hq⟩:∃ q,q=(n+7).tdiv 8:=⟨_,rfl⟩;have hqr:1<=q/\q<=6:=by rw [hq,Int.tdiv_eq_ediv_of_nonneg (by omega)];omega
 have hP:c.rate*aAu n=c.rate*(1+q):=by unfold aAu;rw [if_pos (by omega),hq]
 have hP0:0<=c.rate*(1+q)/\c.rate*(1+q)<=700:=by
  have:=h0.k.rt;have h7:c.rate*(1+q)<=100*7:=Int.mul_le_mul this.2 (by omega) (by omega) (by omega);exact ⟨Int.mul_nonneg this.1 (by omega),by omega⟩
 have e1:(n+8 - 1).tdiv 8=q:=by rw [hq,show n+8 - 1=n+7 by omega]
 have e2:(n+7).tdiv 8=q:=hq.symm;rw [hP] at hR;obtain ⟨P,hPP⟩:∃ P,P=c.rate*(1+q):=⟨_,rfl⟩;have e3:c.rate*(1+q)=P:=hPP.symm;rw [<-hPP] at hR hP0;have HOK:=aA (h0.give (n:=P) (by omega));have cg:=lC w hf hx h0 P ⟨by omega,by omega⟩;have n1:¬ n<0:=by omega
 have n2:¬ 48<n:=by omega
 clear hf hx h0 hP hPP hq;obtain ⟨d,hd⟩:∃ d,d=(c.give P).2:=⟨_,rfl⟩;rw [<-hd] at cg HOK hR;generalize (c.give P).1=gn at*;clear hd;generalize c.rate=rt at*;go_in;go_wp2_with fail;refine cn.mono ?_;rintro e _ ⟨rfl,rfl⟩;clear cn;go_wp2_with fail;refine cg.mono ?_;rintro e w1 ⟨rfl,x1',hx1,hf1⟩;have cb:=gQ w1 hf1 HOK.out.k;obtain ⟨_,_,z2,_,z4,_⟩:=bY.cells hf1;have HX1:=aA hx1;unfold Co.gZ at hR
 cases hb:d.bar with
 | true=>
  rw [hb] at cb hR;have HR:Hid (∀ w',Fam w0 w' (C5 b { d with m:=(d.m.aG 3 0 n).2.2 } x1' ++ l)->R (.returned (.tuple #[.int .i64 (d.m.aG 3 0 n).1,.int .i64 (d.m.aG 3 0 n).2.1])) w'):=fun w' h2=>hR.out _ _ ⟨rfl,x1',⟨HX1.out.ov,HX1.out.mv,HX1.out.mv2⟩,h2⟩;have cm:Calls prog 119 #[.pointer (some ⟨x1'.p,0,none⟩),.int .i64 3,.int .i64 0,.int .i64 n] w1 (fun e w'=>e=.returned (.tuple #[.int .i64 (d.m.aG 3 0 n).1,.int .i64 (d.m.aG 3 0 n).2.1])/\Fam w0 w' (C5 b { d with m:=(d.m.aG 3 0 n).2.2 } x1' ++ l)):=jH w1 (C5.t2 (b:=b) (c:=d) (x:=x1') (l:=l)) (hb:=x1'.hb) (p:=x1'.p) (m:=d.m) hf1 (HOK.out.k.mo (dD.1 hb)) 3 0 n;clear hR hb hf1 hx1 cg;generalize d.m.aG 3 0 n=r at*;obtain ⟨r1,r2,r3⟩:=r;go_wp2_with fail;refine cb.mono ?_;rintro e _ ⟨rfl,rfl⟩;clear cb;go_wp2_with fail;refine cm.mono ?_;rintro e w2 ⟨rfl,hf2⟩;have HE:=aA hf2;clear cm hf2;go_wp2_with fail;exact HR.out _ HE.out
 | false=>
  rw [hb] at cb hR;have HR:Hid (∀ w',Fam w0 w' (C5 b { d with m:=d.m.put (d.m.M.aG 3 0 n).2.2 } x1' ++ l)->R (.returned (.tuple #[.int .i64 (d.m.M.aG 3 0 n).1,.int .i64 (d.m.M.aG 3 0 n).2.1])) w'):=fun w' h2=>hR.out _ _ ⟨rfl,x1',⟨HX1.out.ov,HX1.out.mv,HX1.out.mv2⟩,h2⟩;have cm:Calls prog 120 #[.pointer (some ⟨x1'.hb,0,none⟩),.int .i64 3,.int .i64 0,.int .i64 n] w1 (fun e w'=>e=.returned (.tuple #[.int .i64 (d.m.M.aG 3 0 n).1,.int .i64 (d.m.M.aG 3 0 n).2.1])/\Fam w0 w' (C5 b { d with m:=d.m.put (d.m.M.aG 3 0 n).2.2 } x1' ++ l)):=qR w1 hf1 3 0 n;clear hR hb hf1 hx1 cg;generalize d.m.M.aG 3 0 n=r at*;obtain ⟨r1,r2,r3⟩:=r;go_wp2_with fail;refine cb.mono ?_;rintro e _ ⟨rfl,rfl⟩;clear cb;go_wp2_with fail;refine cm.mono ?_;rintro e w2 ⟨rfl,hf2⟩;have HE:=aA hf2;clear cm hf2;go_wp2_with fail;exact HR.out _ HE.out
theorem aCc (w:World) (hf:Fam w0 w (C5 b c x ++ l)) (hx:x.ok c) (a n:Int) (a1:0<=a) (a2:a<10) (h:n<0):Calls prog 46 #[.pointer (some ⟨b,0,none⟩),.int .i64 4,.int .i64 a,.int .i64 n] w (gG w0 l b (0,1,c)):=by
 refine aF fun R hR=>?_;obtain ⟨_,_,x2,_⟩:=bY.cells hf;have cn:=aJ w x2;have HE:Hid (gG w0 l b (0,1,c) (.returned (.tuple #[.int .i64 0,.int .i64 1])) w):=⟨rfl,x,hx,hf⟩;clear hf hx;go_in;go_wp2_with fail;refine cn.mono ?_;rintro e _ ⟨rfl,rfl⟩;clear cn;go_wp2_with fail;exact hR.out _ _ HE.out
theorem aCd (w:World) (hf:Fam w0 w (C5 b c x ++ l)) (hx:x.ok c) (a n:Int) (a1:0<=a) (a2:a<10) (h:48<n):Calls prog 46 #[.pointer (some ⟨b,0,none⟩),.int .i64 4,.int .i64 a,.int .i64 n] w (gG w0 l b (0,1,c)):=by
 refine aF fun R hR=>?_;obtain ⟨_,_,x2,_⟩:=bY.cells hf;have cn:=aJ w x2;have HE:Hid (gG w0 l b (0,1,c) (.returned (.tuple #[.int .i64 0,.int .i64 1])) w):=⟨rfl,x,hx,hf⟩;have h0:¬ n<0:=by omega
 clear hf hx;go_in;go_wp2_with fail;refine cn.mono ?_;rintro e _ ⟨rfl,rfl⟩;clear cn;go_wp2_with fail;exact hR.out _ _ HE.out
theorem aDJ (w:World) (hf:Fam w0 w (C5 b c x ++ l)) (hx:x.ok c) (h0:c.Ok) (a n:Int) (a1:0<=a) (a2:a<10) (hn0:0<=n) (aIJ:n<=48) (h:n<8):Calls prog 46 #[.pointer (some ⟨b,0,none⟩),.int .i64 4,.int .i64 a,.int .i64 n] w (gG w0 l b ((c.give (c.rate*aAu n)).2.gZ 4 a n)):=by
 refine aF fun R hR=>?_;obtain ⟨_,x1,x2,_⟩:=bY.cells hf;have cn:=aJ w x2;have hP:c.rate*aAu n=c.rate:=by unfold aAu;rw [if_neg (by omega),Int.mul_one]
 have hP0:=h0.k.rt;rw [hP] at hR;obtain ⟨P,hPP⟩:∃ P,P=c.rate:=⟨_,rfl⟩;have e3:P*1=P:=Int.mul_one P;rw [<-hPP] at hR hP0;have HOK:=aA (h0.give (n:=P) (by omega));have cg:=lC w hf hx h0 P ⟨by omega,by omega⟩;rw [<-hPP] at x1;have n1:¬ n<0:=by omega
 have n2:¬ 48<n:=by omega
 clear hf hx h0 hP hPP;obtain ⟨d,hd⟩:∃ d,d=(c.give P).2:=⟨_,rfl⟩;rw [<-hd] at cg HOK hR;generalize (c.give P).1=gn at*;clear hd;go_in;go_wp2_with fail;refine cn.mono ?_;rintro e _ ⟨rfl,rfl⟩;clear cn;go_wp2_with fail;refine cg.mono ?_;rintro e w1 ⟨rfl,x1',hx1,hf1⟩;have cb:=gQ w1 hf1 HOK.out.k;obtain ⟨_,_,z2,_,z4,_⟩:=bY.cells hf1;have HX1:=aA hx1;unfold Co.gZ at hR
 cases hb:d.bar with
 | true=>
  rw [hb] at cb hR;have HR:Hid (∀ w',Fam w0 w' (C5 b { d with m:=(d.m.aG 4 a n).2.2 } x1' ++ l)->R (.returned (.tuple #[.int .i64 (d.m.aG 4 a n).1,.int .i64 (d.m.aG 4 a n).2.1])) w'):=fun w' h2=>hR.out _ _ ⟨rfl,x1',⟨HX1.out.ov,HX1.out.mv,HX1.out.mv2⟩,h2⟩;have cm:Calls prog 119 #[.pointer (some ⟨x1'.p,0,none⟩),.int .i64 4,.int .i64 a,.int .i64 n] w1 (fun e w'=>e=.returned (.tuple #[.int .i64 (d.m.aG 4 a n).1,.int .i64 (d.m.aG 4 a n).2.1])/\Fam w0 w' (C5 b { d with m:=(d.m.aG 4 a n).2.2 } x1' ++ l)):=jH w1 (C5.t2 (b:=b) (c:=d) (x:=x1') (l:=l)) (hb:=x1'.hb) (p:=x1'.p) (m:=d.m) hf1 (HOK.out.k.mo (dD.1 hb)) 4 a n;clear hR hb hf1 hx1 cg;generalize d.m.aG 4 a n=r at*;obtain ⟨r1,r2,r3⟩:=r;go_wp2_with fail;refine cb.mono ?_;rintro e _ ⟨rfl,rfl⟩;clear cb;go_wp2_with fail;refine cm.mono ?_;rintro e w2 ⟨rfl,hf2⟩;have HE:=aA hf2;clear cm hf2;go_wp2_with fail;exact HR.out _ HE.out
 | false=>
  rw [hb] at cb hR;have HR:Hid (∀ w',Fam w0 w' (C5 b { d with m:=d.m.put (d.m.M.aG 4 a n).2.2 } x1' ++ l)->R (.returned (.tuple #[.int .i64 (d.m.M.aG 4 a n).1,.int .i64 (d.m.M.aG 4 a n).2.1])) w'):=fun w' h2=>hR.out _ _ ⟨rfl,x1',⟨HX1.out.ov,HX1.out.mv,HX1.out.mv2⟩,h2⟩;have cm:Calls prog 120 #[.pointer (some ⟨x1'.hb,0,none⟩),.int .i64 4,.int .i64 a,.int .i64 n] w1 (fun e w'=>e=.returned (.tuple #[.int .i64 (d.m.M.aG 4 a n).1,.int .i64 (d.m.M.aG 4 a n).2.1])/\Fam w0 w' (C5 b { d with m:=d.m.put (d.m.M.aG 4 a n).2.2 } x1' ++ l)):=qR w1 hf1 4 a n;clear hR hb hf1 hx1 cg;generalize d.m.M.aG 4 a n=r at*;obtain ⟨r1,r2,r3⟩:=r;go_wp2_with fail;refine cb.mono ?_;rintro e _ ⟨rfl,rfl⟩;clear cb;go_wp2_with fail;refine cm.mono ?_;rintro e w2 ⟨rfl,hf2⟩;have HE:=aA hf2;clear cm hf2;go_wp2_with fail;exact HR.out _ HE.out
theorem aDK (w:World) (hf:Fam w0 w (C5 b c x ++ l)) (hx:x.ok c) (h0:c.Ok) (a n:Int) (a1:0<=a) (a2:a<10) (hn0:0<=n) (aIJ:n<=48) (h:8<=n):Calls prog 46 #[.pointer (some ⟨b,0,none⟩),.int .i64 4,.int .i64 a,.int .i64 n] w (gG w0 l b ((c.give (c.rate*aAu n)).2.gZ 4 a n)):=by
 refine aF fun R hR=>?_;obtain ⟨_,x1,x2,_⟩:=bY.cells hf;have cn:=aJ w x2;obtain ⟨q,hq⟩:∃ q,q=(n+7).tdiv 8:=⟨_,rfl⟩;have hqr:1<=q/\q<=6:=by rw [hq,Int.tdiv_eq_ediv_of_nonneg (by omega)];omega
 have hP:c.rate*aAu n=c.rate*(1+q):=by unfold aAu;rw [if_pos (by omega),hq]
 have hP0:0<=c.rate*(1+q)/\c.rate*(1+q)<=700:=by
  have:=h0.k.rt;have h7:c.rate*(1+q)<=100*7:=Int.mul_le_mul this.2 (by omega) (by omega) (by omega);exact ⟨Int.mul_nonneg this.1 (by omega),by omega⟩
 have e1:(n+8 - 1).tdiv 8=q:=by rw [hq,show n+8 - 1=n+7 by omega]
 have e2:(n+7).tdiv 8=q:=hq.symm;rw [hP] at hR;obtain ⟨P,hPP⟩:∃ P,P=c.rate*(1+q):=⟨_,rfl⟩;have e3:c.rate*(1+q)=P:=hPP.symm;rw [<-hPP] at hR hP0;have HOK:=aA (h0.give (n:=P) (by omega));have cg:=lC w hf hx h0 P ⟨by omega,by omega⟩;have n1:¬ n<0:=by omega
 have n2:¬ 48<n:=by omega
 clear hf hx h0 hP hPP hq;obtain ⟨d,hd⟩:∃ d,d=(c.give P).2:=⟨_,rfl⟩;rw [<-hd] at cg HOK hR;generalize (c.give P).1=gn at*;clear hd;generalize c.rate=rt at*;go_in;go_wp2_with fail;refine cn.mono ?_;rintro e _ ⟨rfl,rfl⟩;clear cn;go_wp2_with fail;refine cg.mono ?_;rintro e w1 ⟨rfl,x1',hx1,hf1⟩;have cb:=gQ w1 hf1 HOK.out.k;obtain ⟨_,_,z2,_,z4,_⟩:=bY.cells hf1;have HX1:=aA hx1;unfold Co.gZ at hR
 cases hb:d.bar with
 | true=>
  rw [hb] at cb hR;have HR:Hid (∀ w',Fam w0 w' (C5 b { d with m:=(d.m.aG 4 a n).2.2 } x1' ++ l)->R (.returned (.tuple #[.int .i64 (d.m.aG 4 a n).1,.int .i64 (d.m.aG 4 a n).2.1])) w'):=fun w' h2=>hR.out _ _ ⟨rfl,x1',⟨HX1.out.ov,HX1.out.mv,HX1.out.mv2⟩,h2⟩;have cm:Calls prog 119 #[.pointer (some ⟨x1'.p,0,none⟩),.int .i64 4,.int .i64 a,.int .i64 n] w1 (fun e w'=>e=.returned (.tuple #[.int .i64 (d.m.aG 4 a n).1,.int .i64 (d.m.aG 4 a n).2.1])/\Fam w0 w' (C5 b { d with m:=(d.m.aG 4 a n).2.2 } x1' ++ l)):=jH w1 (C5.t2 (b:=b) (c:=d) (x:=x1') (l:=l)) (hb:=x1'.hb) (p:=x1'.p) (m:=d.m) hf1 (HOK.out.k.mo (dD.1 hb)) 4 a n;clear hR hb hf1 hx1 cg;generalize d.m.aG 4 a n=r at*;obtain ⟨r1,r2,r3⟩:=r;go_wp2_with fail;refine cb.mono ?_;rintro e _ ⟨rfl,rfl⟩;clear cb;go_wp2_with fail;refine cm.mono ?_;rintro e w2 ⟨rfl,hf2⟩;have HE:=aA hf2;clear cm hf2;go_wp2_with fail;exact HR.out _ HE.out
 | false=>
  rw [hb] at cb hR;have HR:Hid (∀ w',Fam w0 w' (C5 b { d with m:=d.m.put (d.m.M.aG 4 a n).2.2 } x1' ++ l)->R (.returned (.tuple #[.int .i64 (d.m.M.aG 4 a n).1,.int .i64 (d.m.M.aG 4 a n).2.1])) w'):=fun w' h2=>hR.out _ _ ⟨rfl,x1',⟨HX1.out.ov,HX1.out.mv,HX1.out.mv2⟩,h2⟩;have cm:Calls prog 120 #[.pointer (some ⟨x1'.hb,0,none⟩),.int .i64 4,.int .i64 a,.int .i64 n] w1 (fun e w'=>e=.returned (.tuple #[.int .i64 (d.m.M.aG 4 a n).1,.int .i64 (d.m.M.aG 4 a n).2.1])/\Fam w0 w' (C5 b { d with m:=d.m.put (d.m.M.aG 4 a n).2.2 } x1' ++ l)):=qR w1 hf1 4 a n;clear hR hb hf1 hx1 cg;generalize d.m.M.aG 4 a n=r at*;obtain ⟨r1,r2,r3⟩:=r;go_wp2_with fail;refine cb.mono ?_;rintro e _ ⟨rfl,rfl⟩;clear cb;go_wp2_with fail;refine cm.mono ?_;rintro e w2 ⟨rfl,hf2⟩;have HE:=aA hf2;clear cm hf2;go_wp2_with fail;exact HR.out _ HE.out
theorem aBk (w:World) (hf:Fam w0 w (C5 b c x ++ l)) (hx:x.ok c) (h:c.Ok) (k a n:Int):Calls prog 46 #[.pointer (some ⟨b,0,none⟩),.int .i64 k,.int .i64 a,.int .i64 n] w (gG w0 l b (c.aG k a n)):=by
 by_cases hk:(k=3/\a=0)\/(k=4/\0<=a/\a<10)
 ·by_cases n0:n<0
  ·rw [show c.aG k a n=(0,1,c) by unfold Co.aG;rw [if_pos (.inl n0)]];rcases hk with ⟨rfl,rfl⟩|⟨rfl,a1,a2⟩
   ·exact aCe w hf hx n n0
   exact aCc w hf hx a n a1 a2 n0
  by_cases n4:48<n
  ·rw [show c.aG k a n=(0,1,c) by unfold Co.aG;rw [if_pos (.inr (.inl n4))]];rcases hk with ⟨rfl,rfl⟩|⟨rfl,a1,a2⟩
   ·exact aCf w hf hx n n4
   exact aCd w hf hx a n a1 a2 n4
  rw [show c.aG k a n=(c.give (c.rate*aAu n)).2.gZ k a n by unfold Co.aG;rw [if_neg (fun e=>by rcases e with e|e|e;exact n0 e;exact n4 e;exact e hk)]]
  by_cases n8:n<8
  ·rcases hk with ⟨rfl,rfl⟩|⟨rfl,a1,a2⟩
   ·exact aDL w hf hx h n (by omega) (by omega) n8
   exact aDJ w hf hx h a n a1 a2 (by omega) (by omega) n8
  rcases hk with ⟨rfl,rfl⟩|⟨rfl,a1,a2⟩
  ·exact aDM w hf hx h n (by omega) (by omega) (by omega)
  exact aDK w hf hx h a n a1 a2 (by omega) (by omega) (by omega)
 rw [show c.aG k a n=(0,1,c) by unfold Co.aG;rw [if_pos (.inr (.inr hk))]]
 by_cases h3:k=3
 ·subst h3;exact aDO w hf hx a n (fun e=>hk (.inl ⟨rfl,e⟩))
 by_cases h4:k=4
 ·subst h4
  by_cases a0:a<0
  ·exact aCg w hf hx a n a0
  exact aCh w hf hx a n (by have:=fun e=>hk (.inr ⟨rfl,by omega,e⟩);omega)
 exact aDN w hf hx k a n h3 h4
end
end Go.Proofs.YthflghdaejbdkaaGreat
