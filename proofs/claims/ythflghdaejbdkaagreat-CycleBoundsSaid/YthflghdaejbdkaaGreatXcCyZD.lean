/- Lemmas of this claim. -/
import Derived.Test.YthflghdaejbdkaaGreatXcCyZ
namespace Go.Proofs.YthflghdaejbdkaaGreat
open _root_.Go.Proofs.Tryz (prog)
open Go.RowKit Go.Maps
set_option maxHeartbeats 6400000
set_option maxRecDepth 100000
set_option linter.unusedVariables false
section
variable {w0 w:World} {l:List Asn} {b:Nat} {c:Co} {x:CX} {i:Nat}
theorem aIF (h:c.Okc) (y:Int):wfI (c.t.target y).1:=by
 unfold Tb.target;split
 ·exact dL (by decide)
 have:=h.tg.b.tg h.hf.ok (i:=y.toNat) (by omega);show wfI (eAt c.t.ents y.toNat).tgt;exact dL (by omega)
theorem aEX (w:World) (hf:Fam w0 w (C5 b c x ++ l)) (hx:x.ok c) (h:c.Okc) (y:Int):Calls prog 49 #[.pointer (some ⟨b,0,none⟩),.int .i64 y] w (gY w0 l b (c.target y)):=by
 refine aF fun R d=>?_;obtain ⟨_,_,x2,x3,_⟩:=dB.cells hf;have cn:=aJ w x2;obtain ⟨ev,qv,mo,ht⟩:=C5.tb hf;have ct:=aEg w ht y;have HW:=aA (aIF h y);have HF:=aA hf;have HX:=aA hx;have HH:=aA h;unfold Co.target at d;clear hf hx h ht;obtain ⟨t1,h0⟩:∃ z,z=(c.t.target y).1:=⟨_,rfl⟩;obtain ⟨t2,h1⟩:∃ z,z=(c.t.target y).2:=⟨_,rfl⟩;rw [<-h0,<-h1] at ct;rw [<-h0,<-h1] at d;rw [<-h0] at HW;clear h0 h1
 by_cases he:t2≠0
 ·rw [if_pos he] at d;have h4:(t2 != 0)=true:=by simpa using he
  clear he;go_in;go_wp2_with fail;refine cn.mono ?_;rintro e _ ⟨rfl,rfl⟩;go_wp2_with fail;refine ct.mono ?_;rintro e w1 ⟨rfl,ho⟩;have F1:=aA (HF.out.aN ho);clear ct ho;go_wp2;exact d.out _ _ ⟨rfl,x,HX.out,F1.out⟩
 rw [if_neg he] at d;obtain rfl:t2=0:=Classical.not_not.1 he;clear he;go_in;go_wp2_with fail;refine cn.mono ?_;rintro e _ ⟨rfl,rfl⟩;go_wp2_with fail;refine ct.mono ?_;rintro e w1 ⟨rfl,ho⟩;have F1:=aA (HF.out.aN ho);have ch:=fH w1 F1.out HH.out t1 HW.out;clear ct ho HF
 cases hh:c.hid t1 with
 | true=>
  rw [hh] at ch d;replace d:Hid (∀ e w',gY w0 l b (0,0,c) e w'->R e w'):=d;clear hh;go_wp2_with fail;refine ch.mono ?_;rintro e _ ⟨rfl,k,rfl⟩;have F2:=aA (F1.out.drewN k);clear ch;go_wp2;exact d.out _ _ ⟨rfl,x,HX.out,F2.out⟩
 | false=>
  rw [hh] at ch d;replace d:Hid (∀ e w',gY w0 l b (t1,0,if c.ph=1 then { c with m:=c.m.bI t1 } else c) e w'->R e w'):=d;clear hh;go_wp2_with fail;refine ch.mono ?_;rintro e _ ⟨rfl,k,rfl⟩;have F2:=aA (F1.out.drewN k);generalize w1.drewN k=w2 at*;obtain ⟨_,_,_,_,z4,z5,_⟩:=dB.cells F2.out;clear ch F1
  by_cases hp:c.ph=1
  ·rw [if_pos hp] at d;rw [hp] at z5;have cs:=aAH w2 (C5.t2 (b:=b) (c:=c) (x:=x) (l:=l)) (hb:=x.hb) (p:=x.p) (m:=c.m) F2.out (HH.out.mo (.inl hp)) t1 HW.out;clear hp;go_wp2_with fail;refine cs.mono ?_;rintro e w3 ⟨rfl,h2⟩;have F3:Hid (Fam w0 w3 (C5 b { c with m:=c.m.bI t1 } x ++ l)):=h2;clear cs h2;go_wp2;exact d.out _ _ ⟨rfl,x,⟨HX.out.ov,HX.out.mv,HX.out.mv2⟩,F3.out⟩
  rw [if_neg hp] at d;have h5:((c.ph:Int) == 1)=false:=by rw [beq_eq_false_iff_ne];omega
  generalize h3:c.ph=ph at*;clear hp h3;go_wp2;exact d.out _ _ ⟨rfl,x,HX.out,F2.out⟩
theorem aPl {t:Tb} {m:Mk} (k x g:Int):((t.add m k x g).2.1=1↔(k<1\/3<k)):=by
 unfold Tb.add;split
 ·rename_i h;exact ⟨fun _=>h,fun _=>rfl⟩
 rename_i h;refine ⟨fun e=>?_,fun e=>absurd e h⟩;split at e
 ·cases e
 split at e
 ·cases e
 split at e
 ·cases e
 cases e
theorem aKT (w:World) (hf:Fam w0 w (C5 b c x ++ l)) (ht:c.t.ph=0) (k y g:Int) (hy:wfI y):Calls prog 85 #[.pointer (some ⟨x.tb,0,none⟩),.pointer (some ⟨x.p,0,none⟩),.int .i64 k,.int .i64 y,.int .i64 g] w (fun e w'=>e=.returned (.tuple #[.int .i64 (c.t.add c.m k y g).1,.int .i64 (c.t.add c.m k y g).2.1])/\Fam w0 w' (C5 b (c.dZ (c.t.add c.m k y g).2.2) x ++ l)):=by
 refine (aFq w (C5.t3 (b:=b) (c:=c) (x:=x) (l:=l)) (hb:=x.hb) (p:=x.p) (b:=x.tb) (m:=c.m) (t:=c.t) (kk:=c.t.ents.length) hf k y g hy).mono fun e w' ⟨z,d⟩=>⟨z,?_⟩;exact PL.aSH (C5.t3 (b:=b) (c:=c) (x:=x) (l:=l)) d (by rw [aNM,ht];decide) (c.t.add c.m k y g).2.2.ents.length (c.t.add c.m k y g).2.2.fd
theorem aKU (w:World) {z:Nat} (hf:Fam w0 w (C5 b c x ++ (l ++ [TbA z c.t c.t.ents.length]))) (k y g:Int) (hy:wfI y):Calls prog 85 #[.pointer (some ⟨z,0,none⟩),.pointer (some ⟨x.p,0,none⟩),.int .i64 k,.int .i64 y,.int .i64 g] w (fun e w'=>e=.returned (.tuple #[.int .i64 (c.t.add c.m k y g).1,.int .i64 (c.t.add c.m k y g).2.1])/\Fam w0 w' (C5 b c x ++ l)):=by
 have h0:Fam w0 w (TbA z c.t c.t.ents.length :: (C5 b c x ++ l)):=by
  have d:Fam w0 w ((C5 b c x ++ l) ++ [TbA z c.t c.t.ents.length]):=hf;exact d.front
 refine (aFq w (l:=TbA z c.t c.t.ents.length :: (C5 b c x ++ l)) (i:=1) (j:=2) (k:=0) ⟨⟨by simp [C5],by simp [C5],by decide⟩,by simp,by decide,by decide⟩ (hb:=x.hb) (p:=x.p) (b:=z) (m:=c.m) (t:=c.t) (kk:=c.t.ents.length) h0 k y g hy).mono fun e w' ⟨d,h2⟩=>⟨d,?_⟩;have h3:Fam w0 w' (TbA z (c.t.add c.m k y g).2.2 c.t.ents.length :: (C5 b c x ++ l)):=h2;exact h3.aRy
theorem aQr (y:Int) (z:wfI y):wfI (if c.hid y then 0 else y):=by
 split
 ·exact dL (by decide)
 exact z
theorem aHT (w:World) (hf:Fam w0 w (C5 b c x ++ l)) (hx:x.ok c) (h:c.Okc) (k y g:Int) (hy:wfI y):Calls prog 48 #[.pointer (some ⟨b,0,none⟩),.int .i64 k,.int .i64 y,.int .i64 g] w (gY w0 l b (c.refer k y g)):=by
 refine aF fun R hR=>?_;obtain ⟨_,_,x2,_⟩:=dB.cells hf;have cn:=aJ w x2;have ch:=fH w hf h y hy;have HF:=aA hf;have HX:=aA hx;have HH:=aA h;obtain ⟨z,hz⟩:∃ z,z=if c.hid y then 0 else y:=⟨_,rfl⟩;have h6:Hid (wfI z):=by rw [hz];exact aQr y hy
 have HZ:=aA hz;unfold Co.refer at hR;rw [<-hz] at hR;clear hf hx h hy hz
 by_cases hp:c.ph=2
 ·rw [if_pos hp] at hR;have HP:=aA hp;have h5:Hid (∀ wx,Fam w0 wx (C5 b c x ++ l)->Calls prog 109 #[.pointer (some ⟨x.tb,0,none⟩)] wx (fun e w'=>∃ t2,e=.returned (.pointer (some ⟨t2,0,none⟩))/\Fam w0 w' (C5 b c x ++ (l ++ [TbA t2 c.t c.t.ents.length])))):=fun wx hx=>by
   obtain ⟨ev,qv,mo,ht⟩:=C5.tb hx;refine (aCn wx ht HH.out.tg.b.le (by have:=HH.out.tg.b.q20;omega)).mono fun e w' ⟨t2,d,h2⟩=>⟨t2,d,hx.add h2⟩
  have h0:Hid (∀ wx t2,Fam w0 wx (C5 b c x ++ (l ++ [TbA t2 c.t c.t.ents.length]))->Calls prog 85 #[.pointer (some ⟨t2,0,none⟩),.pointer (some ⟨x.p,0,none⟩),.int .i64 k,.int .i64 z,.int .i64 g] wx (fun e w'=>e=.returned (.tuple #[.int .i64 (c.t.add c.m k z g).1,.int .i64 (c.t.add c.m k z g).2.1])/\Fam w0 w' (C5 b c x ++ l))):=fun wx t2 hx=>aKU wx hx k z g h6.out;have h4:=aPl (t:=c.t) (m:=c.m) k z g;have HR:Hid (∀ w',Fam w0 w' (C5 b c x ++ l)->R (.returned (.tuple #[.int .i64 0,.int .i64 (if k<1\/3<k then 1 else 13)])) w'):=fun w' h2=>hR.out _ _ ⟨rfl,x,HX.out,h2⟩;have h7:(if k<1\/3<k then (1:Int) else 13)=if (c.t.add c.m k z g).2.1=1 then 1 else 13:=by
   by_cases e:k<1\/3<k
   ·rw [if_pos e,if_pos (h4.2 e)]
   rw [if_neg e,if_neg (fun e2=>e (h4.1 e2))]
  rw [h7] at HR;clear hR hp h4 h7;generalize (c.t.add c.m k z g).2.1=ae at*;generalize (c.t.add c.m k z g).1=an at*;have h3:Hid ((c.hid y=true/\z=0)\/(c.hid y=false/\z=y)):=by
   have d:=HZ.out;show _\/_
   cases e:c.hid y with
   | true=>rw [e] at d;exact .inl ⟨rfl,by simpa using d⟩
   | false=>rw [e] at d;exact .inr ⟨rfl,by simpa using d⟩
  have h9:∀ (v:Value),v=.int .i64 z->True:=fun _ _=>trivial;clear h9;rcases h3.out with ⟨hh,rfl⟩|⟨hh,rfl⟩
  all_goals
   rw [hh] at ch;clear hh h3 HZ
   by_cases d:ae=1
   all_goals
    first
     | (subst d;replace HR:Hid (∀ w',Fam w0 w' (C5 b c x ++ l)->R (.returned (.tuple #[.int .i64 0,.int .i64 1])) w'):=HR)
     | (rw [if_neg d] at HR;have x1:(ae != 1)=true:=(by simpa using d);clear d)
    go_in;go_wp2_with fail;refine cn.mono ?_;rintro e _ ⟨rfl,rfl⟩;clear cn;go_wp2_with fail;refine ch.mono ?_;rintro e _ ⟨rfl,kk,rfl⟩;have F1:=aA (HF.out.drewN kk);generalize w.drewN kk=w1 at*;have z5:=(dB.cells F1.out).2.2.2.2.2.1;rw [HP.out] at z5;clear ch;go_upto_region 6 with fail;go_region_held3 (fun w'=>w'.cell? ⟨b,3,none⟩=some (.pointer (some ⟨x.tb,0,none⟩))/\w'.cell? ⟨b,4,none⟩=some (.pointer (some ⟨x.p,0,none⟩)))
     (first|(exact ⟨(C5.row F1.out).cell 3 rfl,(C5.row F1.out).cell 4 rfl⟩)|(exact ⟨(C5.row F3.out).cell 3 rfl,(C5.row F3.out).cell 4 rfl⟩)|(exact ⟨(C5.row F2.out).cell 3 rfl,(C5.row F2.out).cell 4 rfl⟩))
     (first
      | (go_at_call 109;refine (h5.out _ F1.out.drew).mono ?_;rintro e w2 ⟨t2,rfl,f2⟩;have F2:=aA f2;clear f2)
      | (go_at_call 85;refine (h0.out _ _ F2.out).mono ?_;rintro e w3 ⟨rfl,f3⟩;have F3:=aA f3;clear f3))
    clear h5 h0 F1 F2 z5;go_wp2_with fail;exact HR.out _ F3.out
 rw [if_neg hp] at hR;have h8:=aA (HH.out.t0 hp);have h0:Hid (∀ wx,Fam w0 wx (C5 b c x ++ l)->Calls prog 85 #[.pointer (some ⟨x.tb,0,none⟩),.pointer (some ⟨x.p,0,none⟩),.int .i64 k,.int .i64 z,.int .i64 g] wx (fun e w'=>e=.returned (.tuple #[.int .i64 (c.t.add c.m k z g).1,.int .i64 (c.t.add c.m k z g).2.1])/\Fam w0 w' (C5 b (c.dZ (c.t.add c.m k z g).2.2) x ++ l))):=fun wx hx=>aKT wx hx h8.out k z g h6.out;have x3:((c.ph:Int) == 2)=false:=by rw [beq_eq_false_iff_ne];omega
 have HR:Hid (∀ w',Fam w0 w' (C5 b (c.dZ (c.t.add c.m k z g).2.2) x ++ l)->R (.returned (.tuple #[.int .i64 (c.t.add c.m k z g).1,.int .i64 (c.t.add c.m k z g).2.1])) w'):=fun w' h2=>hR.out _ _ ⟨rfl,x,⟨fun e=>absurd (show c.ph=2 from e) hp,HX.out.mv,HX.out.mv2⟩,h2⟩;clear hR hp;generalize c.t.add c.m k z g=ar at*;obtain ⟨a1,a2,a3⟩:=ar;have h3:Hid ((c.hid y=true/\z=0)\/(c.hid y=false/\z=y)):=by
  have d:=HZ.out;show _\/_
  cases e:c.hid y with
  | true=>rw [e] at d;exact .inl ⟨rfl,by simpa using d⟩
  | false=>rw [e] at d;exact .inr ⟨rfl,by simpa using d⟩
 rcases h3.out with ⟨hh,rfl⟩|⟨hh,rfl⟩
 all_goals
  rw [hh] at ch;clear hh h3 HZ;go_in;go_wp2_with fail;refine cn.mono ?_;rintro e _ ⟨rfl,rfl⟩;clear cn;go_wp2_with fail;refine ch.mono ?_;rintro e _ ⟨rfl,kk,rfl⟩;have F1:=aA (HF.out.drewN kk);generalize w.drewN kk=w1 at*;have z5:=(dB.cells F1.out).2.2.2.2.2.1;clear ch;generalize c.ph=ph at*;go_upto_region 10 with fail;go_region_held3 (fun w'=>w'.cell? ⟨b,3,none⟩=some (.pointer (some ⟨x.tb,0,none⟩))/\w'.cell? ⟨b,4,none⟩=some (.pointer (some ⟨x.p,0,none⟩)))
   (first|(exact ⟨(C5.row F1.out).cell 3 rfl,(C5.row F1.out).cell 4 rfl⟩)|(exact ⟨(C5.row F3.out).cell 3 rfl,(C5.row F3.out).cell 4 rfl⟩))
   (first
    | (go_at_call 85;refine (h0.out _ F1.out.drew).mono ?_;rintro e w3 ⟨rfl,f3⟩;have F3:=aA f3;clear f3))
  clear h0 F1 z5;go_wp2_with fail;exact HR.out _ F3.out
end
section
variable {w0 w:World} {l:List Asn} {b:Nat} {c:Co} {x:CX} {i:Nat}
theorem Fam.aPL {A B Z:Asn} {L:List Asn} (h:Fam w0 w ((A :: B :: L) ++ [Z])):Fam w0 w (A :: Z :: L):=by
 refine h.selC (fun k=>if k=1 then L.length+2 else k) (fun k Y hk=>?_) (fun j k hj hk hne=>?_)
 ·match k with
  | 0=>exact hk
  | 1=>
   show ((A :: B :: L) ++ [Z])[L.length+2]?=some Y;rw [List.getElem?_append_right (by simp)];simpa using hk
  | k+2=>
   have y:L[k]?=some Y:=hk;have z:=(List.getElem?_eq_some_iff.1 y).1;simp only [show ¬ (k+2=1) by omega,if_false];rw [List.getElem?_append_left (by simp;omega)];exact y
 simp only [List.length_cons] at hj hk;split<;>split<;>omega
theorem ML.aQh {l:List Asn} {i hb p:Nat} {m:Mk} (z:l[i]?=some (PH hb m.M)):ML (l ++ [MkA p hb (fun _=>0) []]) i l.length hb p m=l ++ [MkA p hb m.col m.list]:=by
 have y:i<l.length:=(List.getElem?_eq_some_iff.1 z).1;unfold ML;rw [List.set_append_left _ _ y,xI z,List.set_append_right _ _ (by omega),Nat.sub_self];rfl
theorem Fam.aTO {A B C D E:Asn} {L:List Asn} (h:Fam w0 w (B :: C :: D :: E :: A :: L)):Fam w0 w (A :: B :: C :: D :: E :: L):=by
 refine h.selC (fun k=>if k=0 then 4 else if k<5 then k - 1 else k) (fun k Y hk=>?_) (fun j k hj hk hne=>?_)
 ·match k with
  | 0=>exact hk
  | 1=>exact hk
  | 2=>exact hk
  | 3=>exact hk
  | 4=>exact hk
  | k+5=>
   simp only [show ¬ (k+5=0) by omega,show ¬ (k+5<5) by omega,if_false];exact hk
 split<;>(try split)<;>(try split)<;>(try split)<;>omega
theorem ML.aRH {L:List Asn} {A:Asn} {hb p:Nat} {y:Mk} (h:Fam w0 w (ML ((C5 b c x ++ l) ++ [A]) 0 (C5 b c x ++ l).length hb p y)):Fam w0 w l:=by
 refine h.selC (fun k=>5+k) (fun k Y hk=>?_) (fun j k _ _ hne e=>hne (by omega));have hl:=(List.getElem?_eq_some_iff.1 hk).1;have d:(C5 b c x ++ l).length=5+l.length:=by rw [List.length_append];rfl
 have z:(C5 b c x).length=5:=rfl;unfold ML;rw [List.getElem?_set_ne (by omega),List.getElem?_set_ne (by omega),List.getElem?_append_left (by omega),List.getElem?_append_right (by omega),show 5+k - (C5 b c x).length=k by omega];exact hk
theorem aPE (w:World) (v:Value):Calls prog 51 #[.pointer none,v] w (aO w (.int .i64 1)):=by
 refine aF fun R z=>?_;have y:=sK w;go_in;go_wp2_with fail;refine y.mono ?_;rintro e _ ⟨rfl,rfl⟩;go_wp2;exact z.out _ _ ⟨rfl,rfl⟩
theorem aIg (w:World) (hf:Fam w0 w (C5 b c x ++ l)) (hx:x.ok c) (h:c.Okc) (a:Option Addr) (n cp:Nat) (z:List Int) (hl:z.length=n) (hn:n<=1000000) (hw:∀ y∈z,wfI y) (hr:∀ wx,Fam w0 wx l->pR wx (.slice a n cp) z) :
  Calls prog 51 #[.pointer (some ⟨b,0,none⟩),.slice a n cp] w (aPG w0 l b (c.begin z)):=by
 refine aF fun R hR=>?_;obtain ⟨_,_,x2,_,_,x5,_⟩:=dB.cells hf;have cn:=aJ w x2;unfold Co.begin at hR
 by_cases h2:192<z.length
 ·rw [if_pos h2] at hR;have h1:(192:Int)<n:=by omega
  clear h2 hw hr h hl;have HE:Hid (aPG w0 l b (1,c) (.returned (.int .i64 1)) w):=⟨rfl,x,hx,hf⟩;clear hf hx;go_in;go_wp2_with fail;refine cn.mono ?_;rintro e _ ⟨rfl,rfl⟩;go_wp2;exact hR.out _ _ HE.out
 rw [if_neg h2] at hR;have h1:¬ (192:Int)<n:=by omega
 by_cases hp:c.ph≠0
 ·rw [if_pos hp] at hR;have h6:((c.ph:Int) != 0)=true:=by simpa using hp
  have HE:Hid (aPG w0 l b (13,c) (.returned (.int .i64 13)) w):=⟨rfl,x,hx,hf⟩;clear h2 hw hr h hl hf hx hp;generalize c.ph=ph at*;go_in;go_wp2_with fail;refine cn.mono ?_;rintro e _ ⟨rfl,rfl⟩;go_wp2;exact hR.out _ _ HE.out
 rw [if_neg hp] at hR;rw [Classical.not_not.1 hp] at x5;have cb:=aAI w hf (i:=0) rfl a n cp z hl hn hw (hr w (Fam.rest hf)) (fun p w' m' h5=>hr w' (ML.aRH (L:=[]) h5));have HX:=aA hx;have h4:=aA hl;have HP:=aA (Classical.not_not.1 hp);clear hw hr h hl hf hx hp;go_in;go_wp2_with fail;refine cn.mono ?_;rintro e _ ⟨rfl,rfl⟩;go_wp2_with fail;refine cb.mono ?_;rintro e w1 (⟨d,rfl,h0⟩|⟨d,p2,rfl,h0⟩)
 ·rw [if_pos d] at hR;have HE:Hid (aPG w0 l b (3,c) (.returned (.int .i64 3)) w1):=⟨rfl,x,HX.out,h0⟩;clear cb h0 d;go_wp2;exact hR.out _ _ HE.out
 rw [if_neg d] at hR;have hM:((Mk.start c.m.M).bC z).M=c.m.M:=Mk.kN _ _;rw [ML.aQh (by rw [hM];rfl)] at h0;have h3:=h0.aPL;have F2:Hid (Fam w0 w1 ([PH x.hb ((Mk.start c.m.M).bC z).M,MkA p2 x.hb ((Mk.start c.m.M).bC z).col ((Mk.start c.m.M).bC z).list,TbA x.tb c.t c.t.ents.length,dG x.sv c.sw,eG b 142 (dB b c x)] ++ l)):=by
  rw [hM];exact h3
 have r2:=F2.out.row 4 rfl;have h7:=r2.cell 4 rfl;have h8:=r2.free 4;have h9:=r2.cell 5 rfl;have x1:=r2.free 5;have x3:=r2.cell 6 rfl;have x4:=r2.free 6;have F5:Hid (Fam w0 (((w1.setCell ⟨b,4,none⟩ (.pointer (some ⟨p2,0,none⟩))).setCell ⟨b,5,none⟩ (.int .i64 1)).setCell ⟨b,6,none⟩ (.int .i64 (-1 - (n:Int)))) (C5 b { c with m:=(Mk.start c.m.M).bC z,ph:=1,cr:=-1 - (n:Int),mv:=0 } { x with p:=p2 } ++ l)):=
  ((F2.out.bV 4 rfl 4 (.pointer (some ⟨p2,0,none⟩))).bV 4 rfl 5 (.int .i64 1)).bV 4 rfl 6 (.int .i64 (-1 - (n:Int)))
 clear cb h0 h3 d hM r2 F2;go_wp2;exact hR.out _ _ ⟨rfl,{ x with p:=p2 },⟨fun e=>(by cases e),fun e=>(by cases e),HX.out.mv2⟩,by rw [h4.out];exact F5.out⟩
theorem aNd (w:World) (n r:Int) (h:n<1\/24<n\/r<0\/100<r):Calls prog 35 #[.int .i64 n,.int .i64 r] w (fun e w'=>e=.returned (.tuple #[.pointer none,.int .i64 1])/\Only [] w w'):=by
 refine aF fun R hR=>?_
 by_cases d:n<1\/24<n
 ·have y:=aMB w n d;clear h d;go_in;go_wp2_with fail;refine y.mono ?_;rintro e _ ⟨rfl,rfl⟩;go_wp2;exact hR.out _ _ ⟨rfl,Only.refl _ _⟩
 obtain ⟨k,rfl⟩:∃ k:Nat,n=(k:Int):=⟨n.toNat,by omega⟩;have y:=aDg w k (by omega) (by omega)
 by_cases h1:r<0
 ·clear h d;go_in;go_wp2_with fail;refine y.mono ?_;rintro e w1 ⟨hb,L,X,rfl,_,_,z⟩;have HO:=aA z;clear y z;go_wp2;exact hR.out _ _ ⟨rfl,HO.out⟩
 have h2:100<r:=by omega
 clear h d;go_in;go_wp2_with fail;refine y.mono ?_;rintro e w1 ⟨hb,L,X,rfl,_,_,z⟩;have HO:=aA z;clear y z;go_wp2;exact hR.out _ _ ⟨rfl,HO.out⟩
theorem aDM (w:World) (hf:Fam w0 w l) (n:Nat) (r:Int) (h1:1<=n) (h0:n<=24) (hr:0<=r/\r<=100):Calls prog 35 #[.int .i64 (n:Int),.int .i64 r] w (fun e w'=>∃ b,e=.returned (.tuple #[.pointer (some ⟨b,0,none⟩),.int .i64 0])/\Fam w0 w' (l ++ [CoA b (Co.new n r)])):=by
 refine aF fun R hR=>?_;have ch:=aDg w n h1 h0;have HF:=aA hf;have h4:Hid ((Hp.new n).OkF):=Hp.OkF.new h1 h0;have r1:¬ r<0:=by omega
 have r2:¬ 100<r:=by omega
 clear hf h1 h0 hr;go_in;go_wp2_with fail;refine ch.mono ?_;rintro e w1 ⟨hb,L,X,rfl,hp,hL,ho⟩;have F1:Hid (Fam w0 w1 (PH hb (Hp.new n) :: l)):=(HF.out.add (aOq hp h4.out hL ho)).front;have h3:Hid (¬ (Hp.new n).fJ []):=fun ⟨y,hy,_⟩=>by simp at hy
 have cb:=aAI w1 F1.out (i:=0) rfl none 0 0 [] rfl (by omega) (fun y hy=>by simp at hy) (.inr ⟨none,0,rfl,rfl⟩) (fun _ _ _ _=>.inr ⟨none,0,rfl,rfl⟩);clear ch hp hL ho HF;go_wp2_with fail;refine cb.mono ?_;rintro e d (⟨h5,_,_⟩|⟨_,p,rfl,h2⟩)
 ·exact absurd h5 h3.out
 have F2:Hid (Fam w0 d ((PH hb (Hp.new n) :: l) ++ [MkA p hb (fun _=>0) []])):=by
  rw [ML.aQh (by rfl)] at h2;exact h2
 have ct:=aLz d;clear cb h2 F1;go_wp2_with fail;refine ct.mono ?_;rintro e z ⟨rfl,rfl⟩;have F3:Hid (Fam w0 (d.alloc (.cells #[.bool true,.slice none 0 0,.slice none 0 0,.int .i64 0,.int .i64 0,.map none] 119)) ((PH hb (Hp.new n) :: l) ++ [MkA p hb (fun _=>0) []] ++ [TbA d.heap.size Tb.new 0])):=F2.out.add (aNZ d);obtain ⟨t,ht⟩:∃ t,t=d.heap.size:=⟨_,rfl⟩;rw [<-ht] at F3 ⊢;generalize d.alloc (.cells #[.bool true,.slice none 0 0,.slice none 0 0,.int .i64 0,.int .i64 0,.map none] 119)=z at*;have F4:=F3.out.iK (v:=.slice none 0 0) (m:=[]) (Only.refl [] z) (aK.nil z z.heap.size);have F5:Hid (Fam w0 (z.alloc (.cells #[.int .i64 (n:Int),.int .i64 r,.pointer (some ⟨hb,0,none⟩),.pointer (some ⟨t,0,none⟩),.pointer (some ⟨p,0,none⟩),.int .i64 0,.int .i64 0,.bool false,.slice none 0 0,.int .i64 0] 142)) (C5 z.heap.size (Co.new n r) ⟨hb,p,t,.slice none 0 0,false,0⟩ ++ l)):=by
  have f5:=F4.addRow 142 [.int .i64 (n:Int),.int .i64 r,.pointer (some ⟨hb,0,none⟩),.pointer (some ⟨t,0,none⟩),.pointer (some ⟨p,0,none⟩),.int .i64 0,.int .i64 0,.bool false,.slice none 0 0,.int .i64 0];have f6:Fam w0 _ (PH hb (Hp.new n) :: (l ++ [MkA p hb (fun _=>0) []] ++ [TbA t Tb.new 0] ++ [dG (.slice none 0 0) []] ++ [eG z.heap.size 142 [.int .i64 (n:Int),.int .i64 r,.pointer (some ⟨hb,0,none⟩),.pointer (some ⟨t,0,none⟩),.pointer (some ⟨p,0,none⟩),.int .i64 0,.int .i64 0,.bool false,.slice none 0 0,.int .i64 0]])):=f5;exact f6.aOr.aTO
 clear ct F2 F3 F4 ht;go_wp2;exact hR.out _ _ ⟨z.heap.size,rfl,CoA.born ⟨fun e=>(by cases e),fun e=>(by cases e),Nat.zero_le _⟩ F5.out⟩
def zZ (p r e:Int):Int×Int:=if p<1\/24<p\/r<0\/192<r\/e<0\/20<e then (0,1) else (1+r+4+e+2*(8*p+16*p)+2*(8*p)+8*p*12,0)
theorem aIe (w:World) (p r e:Int):Calls prog 30 #[.int .i64 p,.int .i64 r,.int .i64 e] w (aO w (.tuple #[.int .i64 (zZ p r e).1,.int .i64 (zZ p r e).2])):=by
 refine aF fun R y=>?_;unfold zZ at y
 by_cases z:p<1
 ·rw [if_pos (.inl z)] at y;go_in;go_wp2;exact y.out _ _ ⟨rfl,rfl⟩
 by_cases d:24<p
 ·rw [if_pos (.inr (.inl d))] at y;go_in;go_wp2;exact y.out _ _ ⟨rfl,rfl⟩
 by_cases h3:r<0
 ·rw [if_pos (.inr (.inr (.inl h3)))] at y;go_in;go_wp2;exact y.out _ _ ⟨rfl,rfl⟩
 by_cases h4:192<r
 ·rw [if_pos (.inr (.inr (.inr (.inl h4))))] at y;go_in;go_wp2;exact y.out _ _ ⟨rfl,rfl⟩
 by_cases h5:e<0
 ·rw [if_pos (.inr (.inr (.inr (.inr (.inl h5)))))] at y;go_in;go_wp2;exact y.out _ _ ⟨rfl,rfl⟩
 by_cases h6:20<e
 ·rw [if_pos (.inr (.inr (.inr (.inr (.inr h6)))))] at y;go_in;go_wp2;exact y.out _ _ ⟨rfl,rfl⟩
 rw [if_neg (by omega)] at y;go_in;go_wp2;exact y.out _ _ ⟨rfl,rfl⟩
end
section
variable {w0 w:World} {l:List Asn} {b:Nat} {c c':Co} {x:CX} {i:Nat}
theorem CoA.wrap {f:FuncId} {y:Array Value} {r:Value} (hf:Fam w0 w l) (hi:l[i]?=some (CoA b c)) (hc:∀ x:CX,x.ok c->Fam w0 w (C5 b c x ++ l.set i NoA)->Calls prog f y w (fun e w'=>e=.returned r/\∃ z:CX,z.ok c'/\Fam w0 w' (C5 b c' z ++ l.set i NoA))) :
  Calls prog f y w (fun e w'=>e=.returned r/\Fam w0 w' (l.set i (CoA b c'))):=by
 obtain ⟨x,hx,h0⟩:=CoA.open hf hi;exact (hc x hx h0).mono fun e w' ⟨he,z,h1,d⟩=>⟨he,CoA.close h1 d (List.getElem?_eq_some_iff.1 hi).1⟩
theorem CoA.back (z:Fam w0 w (C5 b c x ++ l.set i NoA)) (hx:x.ok c) (y:l[i]?=some (CoA b c)):Fam w0 w l:=by
 have:=CoA.close hx z (List.getElem?_eq_some_iff.1 y).1;rwa [xI y] at this
theorem qC (w:World) (z:Fam w0 w l) (d:l[i]?=some (CoA b c)) (h:c.Okc):Calls prog 44 #[.pointer (some ⟨b,0,none⟩)] w (fun e w'=>e=.returned (.tuple #[.int .i64 c.finish.1,.int .i64 c.finish.2.1,.int .i64 c.finish.2.2.1])/\Fam w0 w' (l.set i (CoA b c.finish.2.2.2))):=
 CoA.wrap z d fun x hx y=>aEZ w y hx h
theorem aIc (w:World) (z:Fam w0 w l) (d:l[i]?=some (CoA b c)) (h:c.Ok) (n:Int):Calls prog 43 #[.pointer (some ⟨b,0,none⟩),.int .i64 n] w (fun e w'=>e=.returned (.tuple #[.int .i64 (c.fZ n).1,.int .i64 (c.fZ n).2.1])/\Fam w0 w' (l.set i (CoA b (c.fZ n).2.2))):=
 CoA.wrap z d fun x hx y=>aId w y hx h n
theorem jC (w:World) (hf:Fam w0 w l) (hi:l[i]?=some (CoA b c)) (h:c.Ok) (k:Int) (d:Option Addr) (n vc:Nat) (y:List Bool) (hn:y.length=n) (hl:n<=1000000) (hv:∀ z,Fam w0 z (l.set i NoA)->aAw z (.slice d n vc) y) :
  Calls prog 45 #[.pointer (some ⟨b,0,none⟩),.int .i64 k,.slice d n vc] w (fun e w'=>e=.returned (.tuple #[.int .i64 (c.aH k y).1,.int .i64 (c.aH k y).2.1])/\Fam w0 w' (l.set i (CoA b (c.aH k y).2.2))):=
 CoA.wrap hf hi fun x hx h0=>aAt w h0 hx h k d n vc y hn hl (fun z _ _ h=>hv z (Fam.rest h))
theorem sN (w:World) (z:Fam w0 w l) (d:l[i]?=some (CoA b c)) (h:c.Ok) (k a n:Int):Calls prog 46 #[.pointer (some ⟨b,0,none⟩),.int .i64 k,.int .i64 a,.int .i64 n] w (fun e w'=>e=.returned (.tuple #[.int .i64 (c.aG k a n).1,.int .i64 (c.aG k a n).2.1])/\Fam w0 w' (l.set i (CoA b (c.aG k a n).2.2))):=
 CoA.wrap z d fun x hx y=>aBV w y hx h k a n
theorem aAV (w:World) (d:Fam w0 w l) (hi:l[i]?=some (CoA b c)) (h:c.Okc) (y s v:Int) (hy:wfI y) (hv:wfI v):Calls prog 52 #[.pointer (some ⟨b,0,none⟩),.int .i64 y,.int .i64 s,.int .i64 v] w (fun e w'=>e=.returned (.int .i64 (c.store y s v).1)/\Fam w0 w' (l.set i (CoA b (c.store y s v).2))):=
 CoA.wrap d hi fun x hx z=>aHR w z hx h y s v hy hv
theorem aHS (w:World) (d:Fam w0 w l) (hi:l[i]?=some (CoA b c)) (h:c.Okc) (k y g:Int) (hy:wfI y):Calls prog 48 #[.pointer (some ⟨b,0,none⟩),.int .i64 k,.int .i64 y,.int .i64 g] w (fun e w'=>e=.returned (.tuple #[.int .i64 (c.refer k y g).1,.int .i64 (c.refer k y g).2.1])/\Fam w0 w' (l.set i (CoA b (c.refer k y g).2.2))):=
 CoA.wrap d hi fun x hx z=>aHT w z hx h k y g hy
theorem zT (w:World) (d:Fam w0 w l) (hi:l[i]?=some (CoA b c)) (h:c.Okc) (y:Int):Calls prog 49 #[.pointer (some ⟨b,0,none⟩),.int .i64 y] w (fun e w'=>e=.returned (.tuple #[.int .i64 (c.target y).1,.int .i64 (c.target y).2.1])/\Fam w0 w' (l.set i (CoA b (c.target y).2.2))):=
 CoA.wrap d hi fun x hx z=>aEX w z hx h y
theorem aKK (w:World) (z:Fam w0 w l) (d:l[i]?=some (CoA b c)) (h:c.Okc):Calls prog 50 #[.pointer (some ⟨b,0,none⟩)] w (fun e w'=>e=.returned (.tuple #[.int .i64 c.take.1,.int .i64 c.take.2.1])/\Fam w0 w' (l.set i (CoA b c.take.2.2))):=
 CoA.wrap z d fun x hx y=>aKL w y hx h
theorem uV (w:World) (hf:Fam w0 w l) (hi:l[i]?=some (CoA b c)) (h:c.Okc) (a:Option Addr) (n d:Nat) (z:List Int) (hl:z.length=n) (hn:n<=1000000) (hw:∀ y∈z,wfI y) (hr:∀ wx,Fam w0 wx (l.set i NoA)->pR wx (.slice a n d) z) :
  Calls prog 51 #[.pointer (some ⟨b,0,none⟩),.slice a n d] w (fun e w'=>e=.returned (.int .i64 (c.begin z).1)/\Fam w0 w' (l.set i (CoA b (c.begin z).2))):=
 CoA.wrap hf hi fun x hx h0=>aIg w h0 hx h a n d z hl hn hw hr
theorem zX (w:World) (hf:Fam w0 w l) (d:l[i]?=some (CoA b c)) (h:c.Okc):Calls prog 42 #[.pointer (some ⟨b,0,none⟩)] w (fun e w'=>e=.returned (.tuple #[.int .i64 c.step.1,.int .i64 c.step.2.1])/\Fam w0 w' l):=by
 obtain ⟨x,hx,z⟩:=CoA.open hf d;exact (aDO w z hx h).mono fun e w' ⟨he,y⟩=>⟨he,CoA.back y hx d⟩
theorem aNf (w:World) (d:Fam w0 w l) (e:l[i]?=some (CoA b c)) (h:c.Okc) (y s:Int) (hy:wfI y):Calls prog 47 #[.pointer (some ⟨b,0,none⟩),.int .i64 y,.int .i64 s] w (Same w (.tuple #[.int .i64 (c.get y s).1,.int .i64 (c.get y s).2])):=by
 obtain ⟨x,hx,z⟩:=CoA.open d e;exact aNg w z h y s hy
theorem lZ (w:World) (z:Fam w0 w l) (d:l[i]?=some (CoA b c)):Calls prog 53 #[.pointer (some ⟨b,0,none⟩)] w (aO w (.int .i64 (c.ph:Int))):=by
 obtain ⟨x,hx,y⟩:=CoA.open z d;exact aHU w y
theorem aDN (w:World) (z:Fam w0 w l) (d:l[i]?=some (CoA b c)):Calls prog 54 #[.pointer (some ⟨b,0,none⟩)] w (aO w (.int .i64 c.cr)):=by
 obtain ⟨x,hx,y⟩:=CoA.open z d;exact aFb w y
theorem aKR (w:World) (hf:Fam w0 w l) (y:l[i]?=some (CoA b c)):Calls prog 55 #[.pointer (some ⟨b,0,none⟩)] w (fun e w'=>∃ q,e=.returned (.pointer (some ⟨q,0,none⟩))/\Only [] w w'/\Fam w0 w' (l ++ [PH q c.m.M])):=by
 obtain ⟨x,hx,d⟩:=CoA.open hf y;have h0:=(List.getElem?_eq_some_iff.1 y).1;refine (aKS w d).mono fun e w' ⟨q,he,ho,z⟩=>⟨q,he,ho,?_⟩;have h2:Fam w0 w' (C5 b c x ++ (l ++ [PH q c.m.M]).set i NoA):=by
  rw [List.set_append_left _ _ h0];exact z
 exact CoA.back h2 hx (rF y)
end
def aPw:Hp:=(((Hp.new 2).aH 0 []).2.2.aH 0 []).2.2
def aDU:Co:=⟨(Mk.start aPw).bC [1],Tb.new,1,-2,0,2,[],0⟩
theorem aCe:((Hp.new 2).aH 0 []).1=1/\((Hp.new 2).aH 0 []).2.1=0/\(((Hp.new 2).aH 0 []).2.2.aH 0 []).1=2/\(((Hp.new 2).aH 0 []).2.2.aH 0 []).2.1=0:=by decide+kernel
theorem aPQ:(aPw.ob 1).isSome=true:=by decide+kernel
theorem qR:(Co.steps 6 aDU).ph=0/\(∀ j,j<6->(Co.steps j aDU).ph≠0)/\(Co.steps 6 aDU).m.M.handles=[1]:=by decide+kernel
end Go.Proofs.YthflghdaejbdkaaGreat
