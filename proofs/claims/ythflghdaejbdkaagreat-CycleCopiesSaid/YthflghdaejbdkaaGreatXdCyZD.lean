/- Lemmas of this claim. -/
import Derived.Test.YthflghdaejbdkaaGreatXdCyZ
namespace Go.Proofs.YthflghdaejbdkaaGreat
open _root_.Go.Proofs.Tryz (prog)
open Go.RowKit Go.Maps
set_option maxHeartbeats 6400000
set_option maxRecDepth 100000
set_option linter.unusedVariables false
section
variable {w0 w:World} {l:List Asn} {b:Nat} {c:Co} {x:CX} {i:Nat}
theorem aHx (h:c.Okc) (y:Int):wfI (c.t.target y).1:=by
 unfold Tb.target;split
 ·exact dI (by decide)
 have:=h.tg.b.tg h.hf.ok (i:=y.toNat) (by omega);show wfI (eAt c.t.ents y.toNat).tgt;exact dI (by omega)
theorem aEh (w:World) (hf:Fam w0 w (C5 b c x ++ l)) (hx:x.ok c) (h:c.Okc) (y:Int):Calls prog 49 #[.pointer (some ⟨b,0,none⟩),.int .i64 y] w (gG w0 l b (c.target y)):=by
 refine aF fun R hR=>?_;obtain ⟨_,_,x2,x3,_⟩:=bY.cells hf;have cn:=aJ w x2;obtain ⟨ev,qv,mo,ht⟩:=C5.tb hf;have ct:=aDp w ht y;have HW:=aA (aHx h y);have HF:=aA hf;have HX:=aA hx;have HH:=aA h;unfold Co.target at hR;clear hf hx h ht;obtain ⟨t1,ht1⟩:∃ z,z=(c.t.target y).1:=⟨_,rfl⟩;obtain ⟨t2,ht2⟩:∃ z,z=(c.t.target y).2:=⟨_,rfl⟩;rw [<-ht1,<-ht2] at ct;rw [<-ht1,<-ht2] at hR;rw [<-ht1] at HW;clear ht1 ht2
 by_cases he:t2≠0
 ·rw [if_pos he] at hR;have heb:(t2 != 0)=true:=by simpa using he
  clear he;go_in;go_wp2_with fail;refine cn.mono ?_;rintro e _ ⟨rfl,rfl⟩;go_wp2_with fail;refine ct.mono ?_;rintro e w1 ⟨rfl,ho⟩;have F1:=aA (HF.out.aN ho);clear ct ho;go_wp2_with fail;exact hR.out _ _ ⟨rfl,x,HX.out,F1.out⟩
 rw [if_neg he] at hR;obtain rfl:t2=0:=Classical.not_not.1 he;clear he;go_in;go_wp2_with fail;refine cn.mono ?_;rintro e _ ⟨rfl,rfl⟩;go_wp2_with fail;refine ct.mono ?_;rintro e w1 ⟨rfl,ho⟩;have F1:=aA (HF.out.aN ho);have ch:=eY w1 F1.out HH.out t1 HW.out;clear ct ho HF
 cases hh:c.hid t1 with
 | true=>
  rw [hh] at ch hR;replace hR:Hid (∀ e w',gG w0 l b (0,0,c) e w'->R e w'):=hR;clear hh;go_wp2_with fail;refine ch.mono ?_;rintro e _ ⟨rfl,k,rfl⟩;have F2:=aA (F1.out.drewN k);clear ch;go_wp2_with fail;exact hR.out _ _ ⟨rfl,x,HX.out,F2.out⟩
 | false=>
  rw [hh] at ch hR;replace hR:Hid (∀ e w',gG w0 l b (t1,0,if c.ph=1 then { c with m:=c.m.bH t1 } else c) e w'->R e w'):=hR;clear hh;go_wp2_with fail;refine ch.mono ?_;rintro e _ ⟨rfl,k,rfl⟩;have F2:=aA (F1.out.drewN k);generalize w1.drewN k=w2 at*;obtain ⟨_,_,_,_,z4,z5,_⟩:=bY.cells F2.out;clear ch F1
  by_cases hp:c.ph=1
  ·rw [if_pos hp] at hR;rw [hp] at z5;have cs:=zZ w2 (C5.t2 (b:=b) (c:=c) (x:=x) (l:=l)) (hb:=x.hb) (p:=x.p) (m:=c.m) F2.out (HH.out.mo (.inl hp)) t1 HW.out;clear hp;go_wp2_with fail;refine cs.mono ?_;rintro e w3 ⟨rfl,hf3⟩;have F3:Hid (Fam w0 w3 (C5 b { c with m:=c.m.bH t1 } x ++ l)):=hf3;clear cs hf3;go_wp2_with fail;exact hR.out _ _ ⟨rfl,x,⟨HX.out.ov,HX.out.mv,HX.out.mv2⟩,F3.out⟩
  rw [if_neg hp] at hR;have hpb:((c.ph:Int) == 1)=false:=by rw [beq_eq_false_iff_ne];omega
  generalize hph:c.ph=ph at*;clear hp hph;go_wp2_with fail;exact hR.out _ _ ⟨rfl,x,HX.out,F2.out⟩
theorem aNF {t:Tb} {m:Mk} (k x g:Int):((t.add m k x g).2.1=1↔(k<1\/3<k)):=by
 unfold Tb.add;split
 ·rename_i h;exact ⟨fun _=>h,fun _=>rfl⟩
 rename_i h;refine ⟨fun e=>?_,fun e=>absurd e h⟩;split at e
 ·cases e
 split at e
 ·cases e
 split at e
 ·cases e
 cases e
theorem aJC (w:World) (hf:Fam w0 w (C5 b c x ++ l)) (ht:c.t.ph=0) (k y g:Int) (hy:wfI y):Calls prog 85 #[.pointer (some ⟨x.tb,0,none⟩),.pointer (some ⟨x.p,0,none⟩),.int .i64 k,.int .i64 y,.int .i64 g] w (fun e w'=>e=.returned (.tuple #[.int .i64 (c.t.add c.m k y g).1,.int .i64 (c.t.add c.m k y g).2.1])/\Fam w0 w' (C5 b (c.dX (c.t.add c.m k y g).2.2) x ++ l)):=by
 refine (aEA w (C5.t3 (b:=b) (c:=c) (x:=x) (l:=l)) (hb:=x.hb) (p:=x.p) (b:=x.tb) (m:=c.m) (t:=c.t) (kk:=c.t.ents.length) hf k y g hy).mono fun e w' ⟨h1,h2⟩=>⟨h1,?_⟩;exact PL.aQT (C5.t3 (b:=b) (c:=c) (x:=x) (l:=l)) h2 (by rw [aMp,ht];decide) (c.t.add c.m k y g).2.2.ents.length (c.t.add c.m k y g).2.2.fd
theorem aJD (w:World) {t2:Nat} (hf:Fam w0 w (C5 b c x ++ (l ++ [TbA t2 c.t c.t.ents.length]))) (k y g:Int) (hy:wfI y):Calls prog 85 #[.pointer (some ⟨t2,0,none⟩),.pointer (some ⟨x.p,0,none⟩),.int .i64 k,.int .i64 y,.int .i64 g] w (fun e w'=>e=.returned (.tuple #[.int .i64 (c.t.add c.m k y g).1,.int .i64 (c.t.add c.m k y g).2.1])/\Fam w0 w' (C5 b c x ++ l)):=by
 have h0:Fam w0 w (TbA t2 c.t c.t.ents.length :: (C5 b c x ++ l)):=by
  have h1:Fam w0 w ((C5 b c x ++ l) ++ [TbA t2 c.t c.t.ents.length]):=hf;exact h1.front
 refine (aEA w (l:=TbA t2 c.t c.t.ents.length :: (C5 b c x ++ l)) (i:=1) (j:=2) (k:=0) ⟨⟨by simp [C5],by simp [C5],by decide⟩,by simp,by decide,by decide⟩ (hb:=x.hb) (p:=x.p) (b:=t2) (m:=c.m) (t:=c.t) (kk:=c.t.ents.length) h0 k y g hy).mono fun e w' ⟨h1,h2⟩=>⟨h1,?_⟩;have h3:Fam w0 w' (TbA t2 (c.t.add c.m k y g).2.2 c.t.ents.length :: (C5 b c x ++ l)):=h2;exact h3.aPP
theorem aOH (y:Int) (hy:wfI y):wfI (if c.hid y then 0 else y):=by
 split
 ·exact dI (by decide)
 exact hy
theorem aGQ (w:World) (hf:Fam w0 w (C5 b c x ++ l)) (hx:x.ok c) (h:c.Okc) (k y g:Int) (hy:wfI y):Calls prog 48 #[.pointer (some ⟨b,0,none⟩),.int .i64 k,.int .i64 y,.int .i64 g] w (gG w0 l b (c.refer k y g)):=by
 refine aF fun R hR=>?_;obtain ⟨_,_,x2,_⟩:=bY.cells hf;have cn:=aJ w x2;have ch:=eY w hf h y hy;have HF:=aA hf;have HX:=aA hx;have HH:=aA h;obtain ⟨z,hz⟩:∃ z,z=if c.hid y then 0 else y:=⟨_,rfl⟩;have HWZ:Hid (wfI z):=by rw [hz];exact aOH y hy
 have HZ:=aA hz;unfold Co.refer at hR;rw [<-hz] at hR;clear hf hx h hy hz
 by_cases hp:c.ph=2
 ·rw [if_pos hp] at hR;have HP:=aA hp;have HC1:Hid (∀ wx,Fam w0 wx (C5 b c x ++ l)->Calls prog 109 #[.pointer (some ⟨x.tb,0,none⟩)] wx (fun e w'=>∃ t2,e=.returned (.pointer (some ⟨t2,0,none⟩))/\Fam w0 w' (C5 b c x ++ (l ++ [TbA t2 c.t c.t.ents.length])))):=fun wx hx=>by
   obtain ⟨ev,qv,mo,ht⟩:=C5.tb hx;refine (aBD wx ht HH.out.tg.b.le (by have:=HH.out.tg.b.q20;omega)).mono fun e w' ⟨t2,h1,h2⟩=>⟨t2,h1,hx.add h2⟩
  have HC2:Hid (∀ wx t2,Fam w0 wx (C5 b c x ++ (l ++ [TbA t2 c.t c.t.ents.length]))->Calls prog 85 #[.pointer (some ⟨t2,0,none⟩),.pointer (some ⟨x.p,0,none⟩),.int .i64 k,.int .i64 z,.int .i64 g] wx (fun e w'=>e=.returned (.tuple #[.int .i64 (c.t.add c.m k z g).1,.int .i64 (c.t.add c.m k z g).2.1])/\Fam w0 w' (C5 b c x ++ l))):=fun wx t2 hx=>aJD wx hx k z g HWZ.out;have hae:=aNF (t:=c.t) (m:=c.m) k z g;have HR:Hid (∀ w',Fam w0 w' (C5 b c x ++ l)->R (.returned (.tuple #[.int .i64 0,.int .i64 (if k<1\/3<k then 1 else 13)])) w'):=fun w' h2=>hR.out _ _ ⟨rfl,x,HX.out,h2⟩;have hif:(if k<1\/3<k then (1:Int) else 13)=if (c.t.add c.m k z g).2.1=1 then 1 else 13:=by
   by_cases e:k<1\/3<k
   ·rw [if_pos e,if_pos (hae.2 e)]
   rw [if_neg e,if_neg (fun e2=>e (hae.1 e2))]
  rw [hif] at HR;clear hR hp hae hif;generalize (c.t.add c.m k z g).2.1=ae at*;generalize (c.t.add c.m k z g).1=an at*;have HZc:Hid ((c.hid y=true/\z=0)\/(c.hid y=false/\z=y)):=by
   have h1:=HZ.out;show _\/_
   cases e:c.hid y with
   | true=>rw [e] at h1;exact .inl ⟨rfl,by simpa using h1⟩
   | false=>rw [e] at h1;exact .inr ⟨rfl,by simpa using h1⟩
  have fin:∀ (v:Value),v=.int .i64 z->True:=fun _ _=>trivial;clear fin;rcases HZc.out with ⟨hh,rfl⟩|⟨hh,rfl⟩
  all_goals
   rw [hh] at ch;clear hh HZc HZ
   by_cases h1:ae=1
   all_goals
    first
     | (subst h1;replace HR:Hid (∀ w',Fam w0 w' (C5 b c x ++ l)->R (.returned (.tuple #[.int .i64 0,.int .i64 1])) w'):=HR)
     | (rw [if_neg h1] at HR;have h1b:(ae != 1)=true:=(by simpa using h1);clear h1)
    go_in;go_wp2_with fail;refine cn.mono ?_;rintro e _ ⟨rfl,rfl⟩;clear cn;go_wp2_with fail;refine ch.mono ?_;rintro e _ ⟨rfl,kk,rfl⟩;have F1:=aA (HF.out.drewN kk);generalize w.drewN kk=w1 at*;have z5:=(bY.cells F1.out).2.2.2.2.2.1;rw [HP.out] at z5;clear ch;go_upto_region 6 with fail;go_region_held3 (fun w'=>w'.cell? ⟨b,3,none⟩=some (.pointer (some ⟨x.tb,0,none⟩))/\w'.cell? ⟨b,4,none⟩=some (.pointer (some ⟨x.p,0,none⟩)))
     (first|(exact ⟨(C5.row F1.out).cell 3 rfl,(C5.row F1.out).cell 4 rfl⟩)|(exact ⟨(C5.row F3.out).cell 3 rfl,(C5.row F3.out).cell 4 rfl⟩)|(exact ⟨(C5.row F2.out).cell 3 rfl,(C5.row F2.out).cell 4 rfl⟩))
     (first
      | (go_at_call 109;refine (HC1.out _ F1.out.drew).mono ?_;rintro e w2 ⟨t2,rfl,f2⟩;have F2:=aA f2;clear f2)
      | (go_at_call 85;refine (HC2.out _ _ F2.out).mono ?_;rintro e w3 ⟨rfl,f3⟩;have F3:=aA f3;clear f3))
    clear HC1 HC2 F1 F2 z5;go_wp2_with fail;exact HR.out _ F3.out
 rw [if_neg hp] at hR;have HT0:=aA (HH.out.t0 hp);have HC2:Hid (∀ wx,Fam w0 wx (C5 b c x ++ l)->Calls prog 85 #[.pointer (some ⟨x.tb,0,none⟩),.pointer (some ⟨x.p,0,none⟩),.int .i64 k,.int .i64 z,.int .i64 g] wx (fun e w'=>e=.returned (.tuple #[.int .i64 (c.t.add c.m k z g).1,.int .i64 (c.t.add c.m k z g).2.1])/\Fam w0 w' (C5 b (c.dX (c.t.add c.m k z g).2.2) x ++ l))):=fun wx hx=>aJC wx hx HT0.out k z g HWZ.out;have hpb:((c.ph:Int) == 2)=false:=by rw [beq_eq_false_iff_ne];omega
 have HR:Hid (∀ w',Fam w0 w' (C5 b (c.dX (c.t.add c.m k z g).2.2) x ++ l)->R (.returned (.tuple #[.int .i64 (c.t.add c.m k z g).1,.int .i64 (c.t.add c.m k z g).2.1])) w'):=fun w' h2=>hR.out _ _ ⟨rfl,x,⟨fun e=>absurd (show c.ph=2 from e) hp,HX.out.mv,HX.out.mv2⟩,h2⟩;clear hR hp;generalize c.t.add c.m k z g=ar at*;obtain ⟨a1,a2,a3⟩:=ar;have HZc:Hid ((c.hid y=true/\z=0)\/(c.hid y=false/\z=y)):=by
  have h1:=HZ.out;show _\/_
  cases e:c.hid y with
  | true=>rw [e] at h1;exact .inl ⟨rfl,by simpa using h1⟩
  | false=>rw [e] at h1;exact .inr ⟨rfl,by simpa using h1⟩
 rcases HZc.out with ⟨hh,rfl⟩|⟨hh,rfl⟩
 all_goals
  rw [hh] at ch;clear hh HZc HZ;go_in;go_wp2_with fail;refine cn.mono ?_;rintro e _ ⟨rfl,rfl⟩;clear cn;go_wp2_with fail;refine ch.mono ?_;rintro e _ ⟨rfl,kk,rfl⟩;have F1:=aA (HF.out.drewN kk);generalize w.drewN kk=w1 at*;have z5:=(bY.cells F1.out).2.2.2.2.2.1;clear ch;generalize c.ph=ph at*;go_upto_region 10 with fail;go_region_held3 (fun w'=>w'.cell? ⟨b,3,none⟩=some (.pointer (some ⟨x.tb,0,none⟩))/\w'.cell? ⟨b,4,none⟩=some (.pointer (some ⟨x.p,0,none⟩)))
   (first|(exact ⟨(C5.row F1.out).cell 3 rfl,(C5.row F1.out).cell 4 rfl⟩)|(exact ⟨(C5.row F3.out).cell 3 rfl,(C5.row F3.out).cell 4 rfl⟩))
   (first
    | (go_at_call 85;refine (HC2.out _ F1.out.drew).mono ?_;rintro e w3 ⟨rfl,f3⟩;have F3:=aA f3;clear f3))
  clear HC2 F1 z5;go_wp2_with fail;exact HR.out _ F3.out
end
section
variable {w0 w:World} {l:List Asn} {b:Nat} {c:Co} {x:CX} {i:Nat}
theorem Fam.aOh {A B Z:Asn} {L:List Asn} (h:Fam w0 w ((A :: B :: L) ++ [Z])):Fam w0 w (A :: Z :: L):=by
 refine h.selC (fun k=>if k=1 then L.length+2 else k) (fun k Y hk=>?_) (fun j k hj hk hne=>?_)
 ·match k with
  | 0=>exact hk
  | 1=>
   show ((A :: B :: L) ++ [Z])[L.length+2]?=some Y;rw [List.getElem?_append_right (by simp)];simpa using hk
  | k+2=>
   have hk2:L[k]?=some Y:=hk;have hl:=(List.getElem?_eq_some_iff.1 hk2).1;simp only [show ¬ (k+2=1) by omega,if_false];rw [List.getElem?_append_left (by simp;omega)];exact hk2
 simp only [List.length_cons] at hj hk;split<;>split<;>omega
theorem ML.aOx {l:List Asn} {i hb p:Nat} {m:Mk} (hi:l[i]?=some (PH hb m.M)):ML (l ++ [MkA p hb (fun _=>0) []]) i l.length hb p m=l ++ [MkA p hb m.col m.list]:=by
 have hil:i<l.length:=(List.getElem?_eq_some_iff.1 hi).1;unfold ML;rw [List.set_append_left _ _ hil,lX hi,List.set_append_right _ _ (by omega),Nat.sub_self];rfl
theorem Fam.aSd {A B C D E:Asn} {L:List Asn} (h:Fam w0 w (B :: C :: D :: E :: A :: L)):Fam w0 w (A :: B :: C :: D :: E :: L):=by
 refine h.selC (fun k=>if k=0 then 4 else if k<5 then k - 1 else k) (fun k Y hk=>?_) (fun j k hj hk hne=>?_)
 ·match k with
  | 0=>exact hk
  | 1=>exact hk
  | 2=>exact hk
  | 3=>exact hk
  | 4=>exact hk
  | k+5=>
   simp only [show ¬ (k+5=0) by omega,show ¬ (k+5<5) by omega,if_false];exact hk
 split<;>(try split)<;>(try split)<;>(try split)<;>omega
theorem ML.aPY {L:List Asn} {A:Asn} {hb p:Nat} {m':Mk} (h:Fam w0 w (ML ((C5 b c x ++ l) ++ [A]) 0 (C5 b c x ++ l).length hb p m')):Fam w0 w l:=by
 refine h.selC (fun k=>5+k) (fun k Y hk=>?_) (fun j k _ _ hne e=>hne (by omega));have hl:=(List.getElem?_eq_some_iff.1 hk).1;have h5:(C5 b c x ++ l).length=5+l.length:=by rw [List.length_append];rfl
 have h55:(C5 b c x).length=5:=rfl;unfold ML;rw [List.getElem?_set_ne (by omega),List.getElem?_set_ne (by omega),List.getElem?_append_left (by omega),List.getElem?_append_right (by omega),show 5+k - (C5 b c x).length=k by omega];exact hk
theorem aNZ (w:World) (v:Value):Calls prog 51 #[.pointer none,v] w (aK w (.int .i64 1)):=by
 refine aF fun R hR=>?_;have cn:=rE w;go_in;go_wp2_with fail;refine cn.mono ?_;rintro e _ ⟨rfl,rfl⟩;go_wp2_with fail;exact hR.out _ _ ⟨rfl,rfl⟩
theorem aHc (w:World) (hf:Fam w0 w (C5 b c x ++ l)) (hx:x.ok c) (h:c.Okc) (a:Option Addr) (n cp:Nat) (roots:List Int) (hl:roots.length=n) (hn:n<=1000000) (hw:∀ y∈roots,wfI y) (hr:∀ wx,Fam w0 wx l->nI wx (.slice a n cp) roots) :
  Calls prog 51 #[.pointer (some ⟨b,0,none⟩),.slice a n cp] w (aOc w0 l b (c.begin roots)):=by
 refine aF fun R hR=>?_;obtain ⟨_,_,x2,_,_,x5,_⟩:=bY.cells hf;have cn:=aJ w x2;unfold Co.begin at hR
 by_cases aLi:192<roots.length
 ·rw [if_pos aLi] at hR;have h1:(192:Int)<n:=by omega
  clear aLi hw hr h hl;have HE:Hid (aOc w0 l b (1,c) (.returned (.int .i64 1)) w):=⟨rfl,x,hx,hf⟩;clear hf hx;go_in;go_wp2_with fail;refine cn.mono ?_;rintro e _ ⟨rfl,rfl⟩;go_wp2_with fail;exact hR.out _ _ HE.out
 rw [if_neg aLi] at hR;have h1:¬ (192:Int)<n:=by omega
 by_cases hp:c.ph≠0
 ·rw [if_pos hp] at hR;have hpb:((c.ph:Int) != 0)=true:=by simpa using hp
  have HE:Hid (aOc w0 l b (13,c) (.returned (.int .i64 13)) w):=⟨rfl,x,hx,hf⟩;clear aLi hw hr h hl hf hx hp;generalize c.ph=ph at*;go_in;go_wp2_with fail;refine cn.mono ?_;rintro e _ ⟨rfl,rfl⟩;go_wp2_with fail;exact hR.out _ _ HE.out
 rw [if_neg hp] at hR;rw [Classical.not_not.1 hp] at x5;have cb:=aAa w hf (i:=0) rfl a n cp roots hl hn hw (hr w (Fam.rest hf)) (fun p w' m' hfm=>hr w' (ML.aPY (L:=[]) hfm));have HX:=aA hx;have HNL:=aA hl;have HP:=aA (Classical.not_not.1 hp);clear hw hr h hl hf hx hp;go_in;go_wp2_with fail;refine cn.mono ?_;rintro e _ ⟨rfl,rfl⟩;go_wp2_with fail;refine cb.mono ?_;rintro e w1 (⟨hbad,rfl,hf1⟩|⟨hbad,p2,rfl,hf1⟩)
 ·rw [if_pos hbad] at hR;have HE:Hid (aOc w0 l b (3,c) (.returned (.int .i64 3)) w1):=⟨rfl,x,HX.out,hf1⟩;clear cb hf1 hbad;go_wp2_with fail;exact hR.out _ _ HE.out
 rw [if_neg hbad] at hR;have hM:((Mk.start c.m.M).bC roots).M=c.m.M:=Mk.qA _ _;rw [ML.aOx (by rw [hM];rfl)] at hf1;have hf2:=hf1.aOh;have F2:Hid (Fam w0 w1 ([PH x.hb ((Mk.start c.m.M).bC roots).M,MkA p2 x.hb ((Mk.start c.m.M).bC roots).col ((Mk.start c.m.M).bC roots).list,TbA x.tb c.t c.t.ents.length,dQ x.sv c.sw,dZ b 142 (bY b c x)] ++ l)):=by
  rw [hM];exact hf2
 have r2:=F2.out.row 4 rfl;have y4c:=r2.cell 4 rfl;have y4f:=r2.free 4;have y5c:=r2.cell 5 rfl;have y5f:=r2.free 5;have y6c:=r2.cell 6 rfl;have y6f:=r2.free 6;have F5:Hid (Fam w0 (((w1.setCell ⟨b,4,none⟩ (.pointer (some ⟨p2,0,none⟩))).setCell ⟨b,5,none⟩ (.int .i64 1)).setCell ⟨b,6,none⟩ (.int .i64 (-1 - (n:Int)))) (C5 b { c with m:=(Mk.start c.m.M).bC roots,ph:=1,cr:=-1 - (n:Int),mv:=0 } { x with p:=p2 } ++ l)):=
  ((F2.out.bQ 4 rfl 4 (.pointer (some ⟨p2,0,none⟩))).bQ 4 rfl 5 (.int .i64 1)).bQ 4 rfl 6 (.int .i64 (-1 - (n:Int)))
 clear cb hf1 hf2 hbad hM r2 F2;go_wp2_with fail;exact hR.out _ _ ⟨rfl,{ x with p:=p2 },⟨fun e=>(by cases e),fun e=>(by cases e),HX.out.mv2⟩,by rw [HNL.out];exact F5.out⟩
theorem aLG (w:World) (n r:Int) (h:n<1\/24<n\/r<0\/100<r):Calls prog 35 #[.int .i64 n,.int .i64 r] w (fun e w'=>e=.returned (.tuple #[.pointer none,.int .i64 1])/\Only [] w w'):=by
 refine aF fun R hR=>?_
 by_cases h0:n<1\/24<n
 ·have ch:=aLe w n h0;clear h h0;go_in;go_wp2_with fail;refine ch.mono ?_;rintro e _ ⟨rfl,rfl⟩;go_wp2_with fail;exact hR.out _ _ ⟨rfl,Only.refl _ _⟩
 obtain ⟨k,rfl⟩:∃ k:Nat,n=(k:Int):=⟨n.toNat,by omega⟩;have ch:=aCu w k (by omega) (by omega)
 by_cases hr0:r<0
 ·clear h h0;go_in;go_wp2_with fail;refine ch.mono ?_;rintro e w1 ⟨hb,L,X,rfl,_,_,ho⟩;have HO:=aA ho;clear ch ho;go_wp2_with fail;exact hR.out _ _ ⟨rfl,HO.out⟩
 have hr1:100<r:=by omega
 clear h h0;go_in;go_wp2_with fail;refine ch.mono ?_;rintro e w1 ⟨hb,L,X,rfl,_,_,ho⟩;have HO:=aA ho;clear ch ho;go_wp2_with fail;exact hR.out _ _ ⟨rfl,HO.out⟩
theorem aCW (w:World) (hf:Fam w0 w l) (n:Nat) (r:Int) (h1:1<=n) (h24:n<=24) (hr:0<=r/\r<=100):Calls prog 35 #[.int .i64 (n:Int),.int .i64 r] w (fun e w'=>∃ b,e=.returned (.tuple #[.pointer (some ⟨b,0,none⟩),.int .i64 0])/\Fam w0 w' (l ++ [CoA b (Co.new n r)])):=by
 refine aF fun R hR=>?_;have ch:=aCu w n h1 h24;have HF:=aA hf;have HKF:Hid ((Hp.new n).OkF):=Hp.OkF.new h1 h24;have r1:¬ r<0:=by omega
 have r2:¬ 100<r:=by omega
 clear hf h1 h24 hr;go_in;go_wp2_with fail;refine ch.mono ?_;rintro e w1 ⟨hb,L,X,rfl,hp,hL,ho⟩;have F1:Hid (Fam w0 w1 (PH hb (Hp.new n) :: l)):=(HF.out.add (aMN hp HKF.out hL ho)).front;have hbad:Hid (¬ (Hp.new n).fG []):=fun ⟨y,hy,_⟩=>by simp at hy
 have cb:=aAa w1 F1.out (i:=0) rfl none 0 0 [] rfl (by omega) (fun y hy=>by simp at hy) (.inr ⟨none,0,rfl,rfl⟩) (fun _ _ _ _=>.inr ⟨none,0,rfl,rfl⟩);clear ch hp hL ho HF;go_wp2_with fail;refine cb.mono ?_;rintro e w2 (⟨hb2,_,_⟩|⟨_,p,rfl,hf2⟩)
 ·exact absurd hb2 hbad.out
 have F2:Hid (Fam w0 w2 ((PH hb (Hp.new n) :: l) ++ [MkA p hb (fun _=>0) []])):=by
  rw [ML.aOx (by rfl)] at hf2;exact hf2
 have ct:=aKh w2;clear cb hf2 F1;go_wp2_with fail;refine ct.mono ?_;rintro e w3 ⟨rfl,rfl⟩;have F3:Hid (Fam w0 (w2.alloc (.cells #[.bool true,.slice none 0 0,.slice none 0 0,.int .i64 0,.int .i64 0,.map none] 119)) ((PH hb (Hp.new n) :: l) ++ [MkA p hb (fun _=>0) []] ++ [TbA w2.heap.size Tb.new 0])):=F2.out.add (aMz w2);obtain ⟨t,ht⟩:∃ t,t=w2.heap.size:=⟨_,rfl⟩;rw [<-ht] at F3 ⊢;generalize w2.alloc (.cells #[.bool true,.slice none 0 0,.slice none 0 0,.int .i64 0,.int .i64 0,.map none] 119)=w3 at*;have F4:=F3.out.jG (v:=.slice none 0 0) (m:=[]) (Only.refl [] w3) (aO.nil w3 w3.heap.size);have F5:Hid (Fam w0 (w3.alloc (.cells #[.int .i64 (n:Int),.int .i64 r,.pointer (some ⟨hb,0,none⟩),.pointer (some ⟨t,0,none⟩),.pointer (some ⟨p,0,none⟩),.int .i64 0,.int .i64 0,.bool false,.slice none 0 0,.int .i64 0] 142)) (C5 w3.heap.size (Co.new n r) ⟨hb,p,t,.slice none 0 0,false,0⟩ ++ l)):=by
  have f5:=F4.addRow 142 [.int .i64 (n:Int),.int .i64 r,.pointer (some ⟨hb,0,none⟩),.pointer (some ⟨t,0,none⟩),.pointer (some ⟨p,0,none⟩),.int .i64 0,.int .i64 0,.bool false,.slice none 0 0,.int .i64 0];have f6:Fam w0 _ (PH hb (Hp.new n) :: (l ++ [MkA p hb (fun _=>0) []] ++ [TbA t Tb.new 0] ++ [dQ (.slice none 0 0) []] ++ [dZ w3.heap.size 142 [.int .i64 (n:Int),.int .i64 r,.pointer (some ⟨hb,0,none⟩),.pointer (some ⟨t,0,none⟩),.pointer (some ⟨p,0,none⟩),.int .i64 0,.int .i64 0,.bool false,.slice none 0 0,.int .i64 0]])):=f5;exact f6.aMO.aSd
 clear ct F2 F3 F4 ht;go_wp2_with fail;exact hR.out _ _ ⟨w3.heap.size,rfl,CoA.born ⟨fun e=>(by cases e),fun e=>(by cases e),Nat.zero_le _⟩ F5.out⟩
end
section
variable {w0 w:World} {l:List Asn} {b:Nat} {c c':Co} {x:CX} {i:Nat}
theorem CoA.wrap {f:FuncId} {args:Array Value} {r:Value} (hf:Fam w0 w l) (hi:l[i]?=some (CoA b c)) (hc:∀ x:CX,x.ok c->Fam w0 w (C5 b c x ++ l.set i NoA)->Calls prog f args w (fun e w'=>e=.returned r/\∃ x':CX,x'.ok c'/\Fam w0 w' (C5 b c' x' ++ l.set i NoA))) :
  Calls prog f args w (fun e w'=>e=.returned r/\Fam w0 w' (l.set i (CoA b c'))):=by
 obtain ⟨x,hx,hf2⟩:=CoA.open hf hi;exact (hc x hx hf2).mono fun e w' ⟨he,x',hx',hf'⟩=>⟨he,CoA.close hx' hf' (List.getElem?_eq_some_iff.1 hi).1⟩
theorem CoA.back (hf:Fam w0 w (C5 b c x ++ l.set i NoA)) (hx:x.ok c) (hi:l[i]?=some (CoA b c)):Fam w0 w l:=by
 have:=CoA.close hx hf (List.getElem?_eq_some_iff.1 hi).1;rwa [lX hi] at this
theorem yS (w:World) (hf:Fam w0 w l) (hi:l[i]?=some (CoA b c)) (h:c.Okc):Calls prog 44 #[.pointer (some ⟨b,0,none⟩)] w (fun e w'=>e=.returned (.tuple #[.int .i64 c.finish.1,.int .i64 c.finish.2.1,.int .i64 c.finish.2.2.1])/\Fam w0 w' (l.set i (CoA b c.finish.2.2.2))):=
 CoA.wrap hf hi fun x hx hf2=>aEj w hf2 hx h
theorem aGZ (w:World) (hf:Fam w0 w l) (hi:l[i]?=some (CoA b c)) (h:c.Ok) (n:Int):Calls prog 43 #[.pointer (some ⟨b,0,none⟩),.int .i64 n] w (fun e w'=>e=.returned (.tuple #[.int .i64 (c.jF n).1,.int .i64 (c.jF n).2.1])/\Fam w0 w' (l.set i (CoA b (c.jF n).2.2))):=
 CoA.wrap hf hi fun x hx hf2=>aHa w hf2 hx h n
theorem kM (w:World) (hf:Fam w0 w l) (hi:l[i]?=some (CoA b c)) (h:c.Ok) (k:Int) (va:Option Addr) (n vc:Nat) (bl:List Bool) (hn:bl.length=n) (hl:n<=1000000) (hv:∀ wx,Fam w0 wx (l.set i NoA)->aAx wx (.slice va n vc) bl) :
  Calls prog 45 #[.pointer (some ⟨b,0,none⟩),.int .i64 k,.slice va n vc] w (fun e w'=>e=.returned (.tuple #[.int .i64 (c.aH k bl).1,.int .i64 (c.aH k bl).2.1])/\Fam w0 w' (l.set i (CoA b (c.aH k bl).2.2))):=
 CoA.wrap hf hi fun x hx hf2=>zN w hf2 hx h k va n vc bl hn hl (fun wx _ _ h=>hv wx (Fam.rest h))
theorem aBj (w:World) (hf:Fam w0 w l) (hi:l[i]?=some (CoA b c)) (h:c.Ok) (k a n:Int):Calls prog 46 #[.pointer (some ⟨b,0,none⟩),.int .i64 k,.int .i64 a,.int .i64 n] w (fun e w'=>e=.returned (.tuple #[.int .i64 (c.aG k a n).1,.int .i64 (c.aG k a n).2.1])/\Fam w0 w' (l.set i (CoA b (c.aG k a n).2.2))):=
 CoA.wrap hf hi fun x hx hf2=>aBk w hf2 hx h k a n
theorem aGN (w:World) (hf:Fam w0 w l) (hi:l[i]?=some (CoA b c)) (h:c.Okc) (y s v:Int) (hy:wfI y) (hv:wfI v):Calls prog 52 #[.pointer (some ⟨b,0,none⟩),.int .i64 y,.int .i64 s,.int .i64 v] w (fun e w'=>e=.returned (.int .i64 (c.store y s v).1)/\Fam w0 w' (l.set i (CoA b (c.store y s v).2))):=
 CoA.wrap hf hi fun x hx hf2=>aGO w hf2 hx h y s v hy hv
theorem aGP (w:World) (hf:Fam w0 w l) (hi:l[i]?=some (CoA b c)) (h:c.Okc) (k y g:Int) (hy:wfI y):Calls prog 48 #[.pointer (some ⟨b,0,none⟩),.int .i64 k,.int .i64 y,.int .i64 g] w (fun e w'=>e=.returned (.tuple #[.int .i64 (c.refer k y g).1,.int .i64 (c.refer k y g).2.1])/\Fam w0 w' (l.set i (CoA b (c.refer k y g).2.2))):=
 CoA.wrap hf hi fun x hx hf2=>aGQ w hf2 hx h k y g hy
theorem aEg (w:World) (hf:Fam w0 w l) (hi:l[i]?=some (CoA b c)) (h:c.Okc) (y:Int):Calls prog 49 #[.pointer (some ⟨b,0,none⟩),.int .i64 y] w (fun e w'=>e=.returned (.tuple #[.int .i64 (c.target y).1,.int .i64 (c.target y).2.1])/\Fam w0 w' (l.set i (CoA b (c.target y).2.2))):=
 CoA.wrap hf hi fun x hx hf2=>aEh w hf2 hx h y
theorem aJs (w:World) (hf:Fam w0 w l) (hi:l[i]?=some (CoA b c)) (h:c.Okc):Calls prog 50 #[.pointer (some ⟨b,0,none⟩)] w (fun e w'=>e=.returned (.tuple #[.int .i64 c.take.1,.int .i64 c.take.2.1])/\Fam w0 w' (l.set i (CoA b c.take.2.2))):=
 CoA.wrap hf hi fun x hx hf2=>aJt w hf2 hx h
theorem aAr (w:World) (hf:Fam w0 w l) (hi:l[i]?=some (CoA b c)) (h:c.Okc) (a:Option Addr) (n cp:Nat) (roots:List Int) (hl:roots.length=n) (hn:n<=1000000) (hw:∀ y∈roots,wfI y) (hr:∀ wx,Fam w0 wx (l.set i NoA)->nI wx (.slice a n cp) roots) :
  Calls prog 51 #[.pointer (some ⟨b,0,none⟩),.slice a n cp] w (fun e w'=>e=.returned (.int .i64 (c.begin roots).1)/\Fam w0 w' (l.set i (CoA b (c.begin roots).2))):=
 CoA.wrap hf hi fun x hx hf2=>aHc w hf2 hx h a n cp roots hl hn hw hr
theorem aJA (w:World) (hf:Fam w0 w l) (hi:l[i]?=some (CoA b c)) (h:c.Okc):Calls prog 42 #[.pointer (some ⟨b,0,none⟩)] w (fun e w'=>e=.returned (.tuple #[.int .i64 c.step.1,.int .i64 c.step.2.1])/\Fam w0 w' l):=by
 obtain ⟨x,hx,hf2⟩:=CoA.open hf hi;exact (aCZ w hf2 hx h).mono fun e w' ⟨he,hf'⟩=>⟨he,CoA.back hf' hx hi⟩
theorem aLH (w:World) (hf:Fam w0 w l) (hi:l[i]?=some (CoA b c)) (h:c.Okc) (y s:Int) (hy:wfI y):Calls prog 47 #[.pointer (some ⟨b,0,none⟩),.int .i64 y,.int .i64 s] w (Same w (.tuple #[.int .i64 (c.get y s).1,.int .i64 (c.get y s).2])):=by
 obtain ⟨x,hx,hf2⟩:=CoA.open hf hi;exact aLI w hf2 h y s hy
theorem yP (w:World) (hf:Fam w0 w l) (hi:l[i]?=some (CoA b c)):Calls prog 53 #[.pointer (some ⟨b,0,none⟩)] w (aK w (.int .i64 (c.ph:Int))):=by
 obtain ⟨x,hx,hf2⟩:=CoA.open hf hi;exact aGR w hf2
theorem aCY (w:World) (hf:Fam w0 w l) (hi:l[i]?=some (CoA b c)):Calls prog 54 #[.pointer (some ⟨b,0,none⟩)] w (aK w (.int .i64 c.cr)):=by
 obtain ⟨x,hx,hf2⟩:=CoA.open hf hi;exact aEl w hf2
theorem aCX (w:World) (hf:Fam w0 w l) (hi:l[i]?=some (CoA b c)):Calls prog 55 #[.pointer (some ⟨b,0,none⟩)] w (fun e w'=>∃ q,e=.returned (.pointer (some ⟨q,0,none⟩))/\Only [] w w'/\Fam w0 w' (l ++ [PH q c.m.M])):=by
 obtain ⟨x,hx,hf2⟩:=CoA.open hf hi;have hil:=(List.getElem?_eq_some_iff.1 hi).1;refine (aJy w hf2).mono fun e w' ⟨q,he,ho,hf'⟩=>⟨q,he,ho,?_⟩;have h2:Fam w0 w' (C5 b c x ++ (l ++ [PH q c.m.M]).set i NoA):=by
  rw [List.set_append_left _ _ hil];exact hf'
 exact CoA.back h2 hx (qM hi)
end
def aNQ:Hp:=(((Hp.new 2).aH 0 []).2.2.aH 0 []).2.2
def aDe:Co:=⟨(Mk.start aNQ).bC [1],Tb.new,1,-2,0,2,[],0⟩
theorem aBv:((Hp.new 2).aH 0 []).1=1/\((Hp.new 2).aH 0 []).2.1=0/\(((Hp.new 2).aH 0 []).2.2.aH 0 []).1=2/\(((Hp.new 2).aH 0 []).2.2.aH 0 []).2.1=0:=by decide+kernel
theorem aOm:(aNQ.ob 1).isSome=true:=by decide+kernel
theorem qB:(Co.steps 6 aDe).ph=0/\(∀ j,j<6->(Co.steps j aDe).ph≠0)/\(Co.steps 6 aDe).m.M.handles=[1]:=by decide+kernel
end Go.Proofs.YthflghdaejbdkaaGreat
