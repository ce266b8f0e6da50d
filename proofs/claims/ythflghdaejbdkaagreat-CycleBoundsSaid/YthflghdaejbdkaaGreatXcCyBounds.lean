/- Lemmas of this claim. -/
import Derived.Test.YthflghdaejbdkaaGreatXcCyPg
namespace Go.Proofs.YthflghdaejbdkaaGreat
open _root_.Go.Proofs.Tryz (prog)
open Go.RowKit Go.Maps
set_option maxHeartbeats 12800000
set_option maxRecDepth 100000
set_option linter.unusedVariables false
theorem aKO (f:Nat->Nat->Int):∀ k,aAs f k<=k
 | 0=>Nat.le_refl _
 | k+1=>by
  have:=aKO f k;show aAs f k+(if f k 0=8 then 1 else 0)<=k+1;split<;>omega
theorem walk_CycleBounds (h4:Int) (la:Option Addr) (ln lc:Nat) (f:Nat->Nat->Int) (bs:Int) (ka:Option Addr) (kn kc:Nat) (f2:Nat->Nat->Int) (w:World) (wp:wfI h4) (hd:Recs 4 w la ln f) (wb:wfI bs) (a7:Recs 4 w ka kn f2) :
  Calls prog 10 #[.int .i64 h4,.slice la ln lc,.int .i64 bs,.slice ka kn kc] w fun e w'=>e=.returned (.bool true)/\Below w.heap.size w w':=by
 refine aF fun R hR=>?_
 by_cases z6:h4<1\/24<h4
 ·have c1:=aDI h4 0 la ln lc w (by omega);clear hd a7 wp z6 wb;go_in;go_wp2_with fail;refine c1.mono ?_;rintro e w1 ⟨rfl,e6⟩;have cs:=aDJ w1;have a4:=aA e6;clear c1 e6;go_wp2_with fail;refine cs.mono ?_;rintro e w5 ⟨rfl,ho⟩;have HE:=aA (aQF a4.out ho);clear cs ho;go_wp2;exact hR.out _ _ ⟨rfl,HE.out⟩
 obtain ⟨pn,rfl⟩:∃ n:Nat,h4=(n:Int):=⟨h4.toNat,by omega⟩;have z5:1<=pn/\pn<=24:=by omega
 have c1:=aBS pn 0 la ln lc f w z5.1 z5.2 ⟨by decide,by decide⟩ hd;have c7:=aA z5;have HD:=aA hd;have f5:=aA a7;clear hd a7 wp z6 wb z5;obtain ⟨e8,a8⟩:∃ e,e=aAs f (min ln 60):=⟨_,rfl⟩;rw [<-a8] at c1;have b4:=aA a8;clear a8;go_in;go_wp2_with fail;refine c1.mono ?_;rintro e w1 ⟨b,g,c,rfl,d8,f3,f1⟩;have b5:=aA d8;have y7:=aA f3;have b9:=aA f1;clear c1 d8 f3 f1;go_wp2;go_loopw [11,12] (fun ev iv wr=>∃ x:Nat,x<=ln/\x<=60/\ev=.int .i64 (aAs f x:Nat)/\iv=.int .i64 x/\Only [] w1 wr) (fun _ iv _=>ln - (intOf iv).toNat)
 case atStart=>exact ⟨0,by omega,by omega,rfl,rfl,Only.refl _ _⟩
 case round=>as_aux_lemma=>
  obtain ⟨x,hx,g6,rfl,rfl,ho⟩:=hrel;have HF:Hid (Fam w wr (P2 b g c c [])):=b5.out.aN ho;have HO:=aA ho;have f9:=aKO f x;clear ho b5
  by_cases h6:x<ln/\x<60
  ·obtain ⟨h6,g3⟩:=h6;have z7:(x:Int)<ln:=by omega
   have i4:(0:Int)<=x:=by omega
   have f8:(x:Int)<60:=by omega
   rcases HD.out.2 with h0|⟨bb,oo,rfl,hc⟩
   ·omega
   have c0:=HF.out.cell (hc x (by omega) 0 (by omega)).1;rw [Nat.add_zero] at c0
   by_cases h8:f x 0=8
   ·rw [h8] at c0;have a3:Hid (aAs f (x+1)=aAs f x+1):=by show aAs f x+(if f x 0=8 then 1 else 0)=_;rw [if_pos h8]
    generalize aAs f x=q at*;clear hc HF h8;go_wp2;exact ⟨⟨x+1,by omega,by omega,by rw [a3.out];go_num,by go_num,HO.out⟩,by simp [intOf];omega⟩
   have a3:Hid (aAs f (x+1)=aAs f x):=by show aAs f x+(if f x 0=8 then 1 else 0)=_;rw [if_neg h8];rfl
   generalize aAs f x=q at*;generalize f x 0=d0 at*;clear hc HF;go_wp2;exact ⟨⟨x+1,by omega,by omega,by rw [a3.out],by go_num,HO.out⟩,by simp [intOf];omega⟩
  have f4:aAs f x=e8:=by
   have e:min ln 60=x:=by omega
   rw [b4.out,e]
  rw [f4] at f9 ⊢;have hl:((x:Int)<ln/\¬ (x:Int)<60)\/(¬ (x:Int)<ln/\True):=by
   by_cases e:x<ln
   ·exact .inl ⟨by omega,by omega⟩
   exact .inr ⟨by omega,trivial⟩
  have cr:=xP wr bs;have b7:=aA HF.out;clear HD b4 h6 HO HF f4;rcases hl with ⟨z3,z4⟩|⟨z3,z4⟩
  all_goals
   go_wp2_with fail;refine cr.mono ?_;rintro e w3 ⟨v,rfl,z2,f0⟩;obtain ⟨va,vc,hv⟩:=z2.len;have a5:Hid ((dD bs).length<=40):=nJ bs 40;have z9:=aA (Bnd.begin (bs:=bs) y7.out b9.out c7.out);have y8:Hid (∀ z∈uS c.m.M (dD bs),wfI z):=fun z hz=>aIA (y7.out.ok.k.hf.ok.inR (zI hz));obtain ⟨L,hL⟩:∃ L,L=dD bs:=⟨_,rfl⟩;rw [<-hL] at z2 hv a5 z9 y8;obtain ⟨n,hn⟩:∃ n,n=L.length:=⟨_,rfl⟩;rw [<-hn] at hv;have HN:=aA hn;have x7:Hid (n<=40):=by rw [hn];exact a5.out
   subst hv;have y5:Hid (Fam w w3 (P2 b g c c [dG (.slice va n vc) L])):=b7.out.iK f0 z2;clear cr z2 f0 hL hn b7 a5 z3 z4;go_wp2;go_loopw [13,15] (fun fv iv wr=>∃ k:Nat,k<=n/\iv=.int .i64 k/\aK wr w3.heap.size fv (lX c.m.M L k)/\Only [] w3 wr) (fun _ iv _=>n - (intOf iv).toNat)
   case atStart=>exact ⟨0,by omega,rfl,aK.nil _ _,Only.refl _ _⟩
   case round=>as_aux_lemma=>
    obtain ⟨k,hk,rfl,hi,ho⟩:=hrel;have HI:=aA hi;have HO:=aA ho;obtain ⟨fa,fc,e3⟩:=hi.len;obtain ⟨m,hm⟩:∃ m,m=(lX c.m.M L k).length:=⟨_,rfl⟩;rw [<-hm] at e3;have HM:=aA hm;have g4:m<=k:=by rw [hm];exact zJ _ _ _
    subst e3;clear hi ho hm
    by_cases h6:k<n
    ·have HF:Hid (Fam w wr (P2 b g c c [dG (.slice va n vc) L])):=y5.out.aN HO.out;have i0:(0:Int)<=k:=by omega
     have z7:(k:Int)<n:=by omega
     have g8:(k:Int)<=40:=by have:=x7.out;omega
     have e5:k<L.length:=by rw [<-HN.out];exact h6
     obtain ⟨b1,o1,rfl,c1⟩:=(HF.out.ints 2 rfl).read.at e5;obtain ⟨q,g0,_⟩:=GoA.lives (i:=1) HF.out rfl;obtain ⟨y,hy⟩:∃ y,y=gI L k:=⟨_,rfl⟩;rw [<-hy] at c1;have HY:=aA hy;have HS:Hid (∀ d,Only [] wr d->d.cell? ⟨g,0,none⟩=some (.pointer (some ⟨q,0,none⟩))/\d.cell? ⟨b1,o1+k,none⟩=some (.int .i64 y)):=fun d hx=>⟨hx.cell0 g0,hx.cell0 c1⟩;have HL:Hid (∀ d,Only [] wr d->Calls prog 58 #[.pointer (some ⟨q,0,none⟩),.int .i64 y] d (fun e w'=>e=.returned (.bool (c.m.M.ob y).isSome)/\Only [] d w')):=fun d hx=>GoA.aQf (i:=1) (HF.out.aN hx) rfl (HS.out _ hx).1 y;have f6:Hid (m=(lX c.m.M L k).length/\m<=40):=⟨HM.out,by have:=x7.out;omega⟩;clear e5 hy HM x7 HN y5
     cases x6:(c.m.M.ob y).isSome with
     | true=>
      have y1:Hid (lX c.m.M L (k+1)=lX c.m.M L k ++ [y]):=by show lX c.m.M L k ++ (if _ then _ else _)=_;rw [<-HY.out,if_pos x6]
      rw [x6] at HL;clear x6 HY HF;go_upto_region 15 with fail;go_region_held3 (fun w'=>w'.cell? ⟨g,0,none⟩=some (.pointer (some ⟨q,0,none⟩))/\w'.cell? ⟨b1,o1+k,none⟩=some (.int .i64 y))
       (first|(exact HS.out _ (Only.refl _ _))|(exact HS.out _ (Only.refl _ _).drew)|(exact HS.out _ h7)|(exact HS.out _ ((Only.refl _ _).drew.trans h7 (by simp))))
       (first|(go_at_call 58;refine (HL.out _ (Only.refl _ _).drew).mono ?_;rintro e w4 ⟨rfl,h7⟩))
      have h9:Hid (Only [] wr w4):=(Only.refl _ _).drew.trans h7 (by simp);obtain ⟨_,c4⟩:=HS.out _ h9.out;have a1:Hid (aK w4 w3.heap.size (.slice fa m fc) (lX c.m.M L k)):=HI.out.only h9.out (by simp);have y2:Hid (Only [] w3 w4):=HO.out.trans h9.out (by simp);clear h7 HL HS h9 HI HO c1 g0;go_wp2_with (at_builtin;refine bJ rfl _ _ rfl w3.heap.size _ _ rfl (a1.out.alloc _) w4.heap.size y rfl ?c1 ?c2 ?c3 ?c4)
      case c1=>exact (Row.new w4 _ [_]).cell 0 rfl
      case c2=>have:=f6.out;omega
      case c3=>have:=y2.out.size;simp;omega
      case c4=>
       intro v' w5 e4 e7 h5;have f7:Hid (Only [] w3 w5):=(y2.out.alloc _).trans e7 (fun z hz=>.inr (a1.out.own z (jL hz)).1);have a2:Hid (aK w5 w3.heap.size v' (lX c.m.M L (k+1))):=by
        show aK _ _ _ _;rw [y1.out];exact e4
       clear e4 e7 h5 y1 a1 y2 c4;go_wp2;exact ⟨⟨k+1,by omega,by go_num,a2.out,f7.out⟩,by simp [intOf];omega⟩
     | false=>
      have y1:Hid (lX c.m.M L (k+1)=lX c.m.M L k):=by show lX c.m.M L k ++ (if _ then _ else _)=_;rw [<-HY.out,if_neg (by rw [x6];decide),List.append_nil]
      rw [x6] at HL;clear x6 HY HF;go_upto_region 15 with fail;go_region_held3 (fun w'=>w'.cell? ⟨g,0,none⟩=some (.pointer (some ⟨q,0,none⟩))/\w'.cell? ⟨b1,o1+k,none⟩=some (.int .i64 y))
       (first|(exact HS.out _ (Only.refl _ _))|(exact HS.out _ (Only.refl _ _).drew)|(exact HS.out _ h7)|(exact HS.out _ ((Only.refl _ _).drew.trans h7 (by simp))))
       (first|(go_at_call 58;refine (HL.out _ (Only.refl _ _).drew).mono ?_;rintro e w4 ⟨rfl,h7⟩))
      have h9:Hid (Only [] wr w4):=(Only.refl _ _).drew.trans h7 (by simp);have a2:Hid (aK w4 w3.heap.size (.slice fa m fc) (lX c.m.M L (k+1))):=by
       show aK _ _ _ _;rw [y1.out];exact HI.out.only h9.out (by simp)
      have y2:Hid (Only [] w3 w4):=HO.out.trans h9.out (by simp);clear h7 HL HS h9 HI HO c1 g0 y1;go_wp2;exact ⟨⟨k+1,by omega,by go_num,a2.out,y2.out⟩,by simp [intOf];omega⟩
    have g2:k=n:=by omega
    subst g2;have HF:Hid (Fam w wr (P2 b g c c [dG (.slice va k vc) L,dG (.slice fa m fc) (uS c.m.M L)])):=by
     have h1:=HI.out;rw [HN.out] at h1;exact y5.out.iK HO.out h1
    have y6:Hid (m=(uS c.m.M L).length):=by
     show m=(lX c.m.M L L.length).length;rw [<-HN.out];exact HM.out
    have g7:m<=40:=by have:=x7.out;omega
    clear HI HO y5 HM g4 h6 hk;obtain ⟨dd,B,b0,z1,y9,z0,g5,g9⟩:=z9.out;obtain ⟨F,hF⟩:∃ F,F=uS c.m.M L:=⟨_,rfl⟩;rw [<-hF] at b0 z1 y9 z0 y6 y8 HF;rw [<-y6.out] at z1 y9 z0;have b8:=aA y7.out.ok.k;have b2:Hid (∀ d,Calls prog 30 #[.int .i64 (pn:Int),.int .i64 (m:Int),.int .i64 ((min e8 20:Nat):Int)] d (aO d (.tuple #[.int .i64 B,.int .i64 0]))):=fun d=>by
     have:=aIe d pn m ((min e8 20:Nat):Int);rw [z1] at this;exact this
    have HB:Hid (∀ d,Fam w d (P2 b g c c [dG (.slice va k vc) L,dG (.slice fa m fc) F])->Calls prog 51 #[.pointer (some ⟨b,0,none⟩),.slice fa m fc] d (fun e w'=>e=.returned (.int .i64 0)/\Fam w w' (P2 b g dd c []))):=fun d hx=>by
     have h1:=uV (i:=0) d hx rfl b8.out fa m fc F y6.out.symm (by omega) y8.out (fun wy hy=>(hy.ints 3 rfl).read);rw [b0] at h1;refine h1.mono fun e w' ⟨he,g1⟩=>⟨he,?_⟩;have h2:Fam w w' (P2 b g dd c ([dG (.slice va k vc) L] ++ [dG (.slice fa m fc) F])):=g1;have h3:Fam w w' (P2 b g dd c ([] ++ [dG (.slice va k vc) L])):=P2.pop h2;exact P2.pop h3
    have a0:=aA y9;have b3:=aA z0;have a6:=b2.out wr;have z8:((min e8 20:Nat):Int)=min (e8:Int) 20:=by omega
    rw [z8] at a6;clear b0 z1 y9 z0 g5 hF z9 y6 y8 b8 y7 b9 HN x7 c7 b2 z8;go_wp2_with fail;refine a6.mono ?_;rintro e _ ⟨rfl,rfl⟩;have cb:=HB.out wr HF.out;clear a6 HB HF;go_wp2_with fail;refine cb.mono ?_;rintro e w4 ⟨rfl,a9⟩;have b6:=aA a9;have cq:=aDN (i:=0) w4 a9 rfl;rw [b3.out] at cq;clear cb a9 b3;go_wp2_with fail;refine cq.mono ?_;rintro e _ ⟨rfl,rfl⟩;clear cq;go_wp2;go_loopw [18,19] (fun sv av wr=>∃ (cx:Co) (y:Nat) (s:Int),sv=.int .i64 s/\av=.int .i64 y/\(1<=s/\(y:Int)<s/\s<=B)/\Fam w wr (P2 b g cx c [])/\Hid (Bnd B s cx)) (fun sv _ _=>(B - intOf sv).toNat)
    case atStart=>
     have:=a0.out.le;exact ⟨dd,0,_,rfl,rfl,⟨by omega,by omega,by omega⟩,b6.out,a0⟩
    case round=>as_aux_lemma=>
     clear b6 a0;obtain ⟨cx,y,s,rfl,rfl,⟨i2,i6,i3⟩,hF,HC⟩:=hrel;have HF:=aA hF;clear hF
     by_cases hp:cx.ph=0
     ·have cp:=aKN (i:=0) HF.out rfl hp;have cs:=aDJ wr;have a4:Hid (Only [] w wr):=HF.out.1;clear hp HF HC;go_wp2_with fail;refine cp.mono ?_;rintro e _ ⟨rfl,rfl⟩;clear cp;go_wp2_with fail;refine cs.mono ?_;rintro e w5 ⟨rfl,ho⟩;have HE:=aA (aQF a4.out ho);clear cs ho;go_wp2;exact hR.out _ _ ⟨rfl,HE.out⟩
     have cp:=lZ (i:=0) wr HF.out rfl;have i1:¬ (cx.ph:Int)=0:=by omega
     have HP:=aA hp;generalize (cx.ph:Int)=ph at*;clear hp
     by_cases h6:y<kn/\y<60
     ·obtain ⟨h6,g3⟩:=h6;have z7:(y:Int)<kn:=by omega
      have i5:(0:Int)<=y:=by omega
      have f8:(y:Int)<60:=by omega
      rcases f5.out.2 with h0|⟨bb,oo,rfl,hc⟩
      ·omega
      have c0:=HF.out.cell (hc y (by omega) 0 (by omega)).1;have c1:=HF.out.cell (hc y (by omega) 1 (by omega)).1;have c2:=HF.out.cell (hc y (by omega) 2 (by omega)).1;have c3:=HF.out.cell (hc y (by omega) 3 (by omega)).1;rw [Nat.add_zero] at c0;rw [<-Nat.add_assoc] at c1 c2 c3;have y3:Hid (wfI (f2 y 1)/\wfI (f2 y 2)/\wfI (f2 y 3)):=⟨(hc y (by omega) 1 (by omega)).2,(hc y (by omega) 2 (by omega)).2,(hc y (by omega) 3 (by omega)).2⟩;generalize f2 y 0=d0 at*;generalize f2 y 1=d1 at*;generalize f2 y 2=d2 at*;generalize f2 y 3=d3 at*;clear hc;go_wp2_with fail;refine cp.mono ?_;rintro e _ ⟨rfl,rfl⟩;clear cp;go_upto_region 26 with fail;have F5:Hid (Fam w (wr.alloc (.cells #[.int .i64 d0,.int .i64 d1,.int .i64 d2,.int .i64 d3] 80)) (P2 b g cx c ([] ++ [DA wr.heap.size d0 d1 d2 d3]))):=P2.deed HF.out d0 d1 d2 d3;generalize wr.alloc (.cells #[.int .i64 d0,.int .i64 d1,.int .i64 d2,.int .i64 d3] 80)=w5 at*;obtain ⟨o0,o1,o2,o3⟩:=P2.row F5.out;generalize wr.heap.size=wo at *
      by_cases d7:d0=0\/d0=1\/d0=2\/d0=9
      ·have c8:=aDK w5 F5.out HC.out.ok d0 d1 d2 d3 y3.out.1 y3.out.2.1 y3.out.2.2;obtain ⟨hb,d6⟩:=HC.out.nK d0 d1 d2 d3;have y4:=aA hb;have c5:Hid ((cx.nK d0 d1 d2 d3).ph≠0):=by rw [d6];exact HP.out
       clear hb d6 c0 c1 c2 c3 HF F5 HC HP y3;generalize cx.nK d0 d1 d2 d3=c6 at*;rcases d7 with rfl|rfl|rfl|rfl
       all_goals
        go_wp2_with fail;refine c8.mono ?_;rintro e w6 ⟨rfl,d9⟩;have x9:Hid (Fam w w6 (P2 b g c6 c [])):=P2.pop d9;clear c8 d9 o0 o1 o2 o3;have cc:=zX (i:=0) w6 x9.out rfl y4.out.ok.k;obtain ⟨x3,h5,d4,d5⟩:=y4.out.step c5.out;have x8:=aA x3;have x1:Hid (∀ d,Fam w d (P2 b g c6 c [])->Calls prog 41 #[.pointer (some ⟨b,0,none⟩)] d (fun e w'=>e=.returned (.tuple #[.int .i64 (c6.step).1,.int .i64 0])/\Fam w w' (P2 b g c6.step.2.2 c []))):=fun d hx=>by
         have:=sG (i:=0) d hx rfl y4.out.ok.k;rw [h5] at this;exact this
        rw [h5] at cc;have cc:Calls prog 42 #[.pointer (some ⟨b,0,none⟩)] w6 (fun e w'=>e=.returned (.tuple #[.int .i64 (c6.step).1,.int .i64 0])/\Fam w w' (P2 b g c6 c [])):=cc;clear x3 h5 x9 y4 c5;generalize c6.step.2.2=c9 at*;generalize c6.step.1=n9 at*;go_wp2_with fail;refine cc.mono ?_;rintro e w7 ⟨rfl,x4⟩;have x2:=x1.out w7 x4;clear cc x4 x1;go_wp2_with fail;refine x2.mono ?_;rintro e w8 ⟨rfl,x5⟩;have y0:=aA x5;clear x2 x5;go_wp2;exact ⟨⟨c9,y+1,s+n9,by go_num,by go_num,⟨by omega,by omega,by omega⟩,y0.out,x8⟩,by simp [intOf];omega⟩
      have x9:Hid (Fam w w5 (P2 b g cx c [])):=P2.pop F5.out;have e0:(d0 == 0)=false:=by rw [beq_eq_false_iff_ne];omega
      have e1:(d0 == 1)=false:=by rw [beq_eq_false_iff_ne];omega
      have e2:(d0 == 2)=false:=by rw [beq_eq_false_iff_ne];omega
      have e9:(d0 == 9)=false:=by rw [beq_eq_false_iff_ne];omega
      clear d7 c0 c1 c2 c3 HF F5 y3;have cc:=zX (i:=0) w5 x9.out rfl HC.out.ok.k;obtain ⟨x3,h5,d4,d5⟩:=HC.out.step HP.out;have x8:=aA x3;have x1:Hid (∀ d,Fam w d (P2 b g cx c [])->Calls prog 41 #[.pointer (some ⟨b,0,none⟩)] d (fun e w'=>e=.returned (.tuple #[.int .i64 (cx.step).1,.int .i64 0])/\Fam w w' (P2 b g cx.step.2.2 c []))):=fun d hx=>by
       have:=sG (i:=0) d hx rfl HC.out.ok.k;rw [h5] at this;exact this
      rw [h5] at cc;have cc:Calls prog 42 #[.pointer (some ⟨b,0,none⟩)] w5 (fun e w'=>e=.returned (.tuple #[.int .i64 (cx.step).1,.int .i64 0])/\Fam w w' (P2 b g cx c [])):=cc;clear x3 h5 x9 HC HP;generalize cx.step.2.2=c9 at*;generalize cx.step.1=n9 at*;go_wp2_with fail;refine cc.mono ?_;rintro e w7 ⟨rfl,x4⟩;have x2:=x1.out w7 x4;clear cc x4 x1;go_wp2_with fail;refine x2.mono ?_;rintro e w8 ⟨rfl,x5⟩;have y0:=aA x5;clear x2 x5;go_wp2;exact ⟨⟨c9,y+1,s+n9,by go_num,by go_num,⟨by omega,by omega,by omega⟩,y0.out,x8⟩,by simp [intOf];omega⟩
     have hl:((y:Int)<kn/\¬ (y:Int)<60)\/(¬ (y:Int)<kn/\True):=by
      by_cases e:y<kn
      ·exact .inl ⟨by omega,by omega⟩
      exact .inr ⟨by omega,trivial⟩
     clear h6;rcases hl with ⟨z3,z4⟩|⟨z3,z4⟩
     all_goals
      go_wp2_with fail;refine cp.mono ?_;rintro e _ ⟨rfl,rfl⟩;clear cp;have cc:=zX (i:=0) wr HF.out rfl HC.out.ok.k;obtain ⟨x3,h5,d4,d5⟩:=HC.out.step HP.out;have x8:=aA x3;have x1:Hid (∀ d,Fam w d (P2 b g cx c [])->Calls prog 41 #[.pointer (some ⟨b,0,none⟩)] d (fun e w'=>e=.returned (.tuple #[.int .i64 (cx.step).1,.int .i64 0])/\Fam w w' (P2 b g cx.step.2.2 c []))):=fun d hx=>by
       have:=sG (i:=0) d hx rfl HC.out.ok.k;rw [h5] at this;exact this
      rw [h5] at cc;have cc:Calls prog 42 #[.pointer (some ⟨b,0,none⟩)] wr (fun e w'=>e=.returned (.tuple #[.int .i64 (cx.step).1,.int .i64 0])/\Fam w w' (P2 b g cx c [])):=cc;clear x3 h5 HF HC HP;generalize cx.step.2.2=c9 at*;generalize cx.step.1=n9 at*;go_wp2_with fail;refine cc.mono ?_;rintro e w7 ⟨rfl,x4⟩;have x2:=x1.out w7 x4;clear cc x4 x1;go_wp2_with fail;refine x2.mono ?_;rintro e w8 ⟨rfl,x5⟩;have y0:=aA x5;clear x2 x5;go_wp2;exact ⟨⟨c9,y+1,s+n9,by go_num,by go_num,⟨by omega,by omega,by omega⟩,y0.out,x8⟩,by simp [intOf];omega⟩
end Go.Proofs.YthflghdaejbdkaaGreat
